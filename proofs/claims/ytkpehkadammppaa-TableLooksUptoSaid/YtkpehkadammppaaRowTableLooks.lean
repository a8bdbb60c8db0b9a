/- The row of TableLooks, of bulk at most the bound. -/
import Derived.Test.YtkpehkadammppaaTLooks
import Derived.Test.YtkpehkadammppaaIn
set_option linter.unusedVariables false
namespace Go.Proofs.Ytkpehkadammppaa.tableLooks
open Go Go.ChangeShapes Go.WideShapes Go.ChangeAt Go.RowKit Go.Deep Go.Joins Go.Proofs.YtkpehkadammppaaFx
theorem own : ownKnob Try.prog.godebug = none := by kernel_rfl
theorem laidOut : laidOutB Try.prog = true := by kernel_rfl
theorem rInt : Rds Try.prog 3 (kInt .i64) (fun a n => (Lit.int .i64 a).wf = true ∧ 1 ≤ n) := rds_int Try.underlying3 (by kernel_rfl)
theorem rMv : Rds Try.prog 48 fMv.kn (fun a n => (I64 a.d ∧ I64 a.n) ∧ 1 ≤ n) := rds_mv Try.underlying48 Try.underlying3 (by kernel_rfl) (by kernel_rfl) rfl rfl
theorem rMvs : Rds Try.prog 38 fMv.kn.sl BMv := rds_sl Try.underlying38 (by kernel_rfl) rMv
theorem rInts : Rds Try.prog 39 (kInt .i64).sl BInt := rds_sl Try.underlying39 (by kernel_rfl) rInt
structure Ok2 (p : Pk) : Prop where
  d : ∀ m ∈ p.dflt, I64 m.d ∧ I64 m.n
  e : ∀ m ∈ p.cell, I64 m.d ∧ I64 m.n
  g : ∀ x ∈ p.gcell, I64 x
theorem getD_i64 {xs : List Mv} (h : ∀ m ∈ xs, I64 m.d ∧ I64 m.n) (i : Nat) : I64 (xs.getD i mv0).d ∧ I64 (xs.getD i mv0).n := by
  rcases Nat.lt_or_ge i xs.length with hi | hi
  · exact h _ (getD_mem hi)
  · rw [List.getD_eq_getElem?_getD, List.getElem?_eq_none hi]
    unfold I64 mv0
    decide
theorem lookMv_i64 {p : Pk} (h : Ok2 p) (s k : Int) : I64 (lookMv p s k).d ∧ I64 (lookMv p s k).n := by
  unfold lookMv
  split
  · unfold I64 mv0; decide
  · split
    · exact getD_i64 h.d _
    · exact getD_i64 h.e _
theorem lookGo_i64 {p : Pk} (h : Ok2 p) (s k : Int) : I64 (lookGo p s k) := by
  unfold lookGo
  split
  · unfold I64; decide
  · split
    · unfold I64; decide
    · rcases Nat.lt_or_ge (cellF p.gbase p.gcheck p.gcell.length s k).toNat p.gcell.length with hi | hi
      · exact h.g _ (getD_mem hi)
      · rw [List.getD_eq_getElem?_getD, List.getElem?_eq_none hi]
        unfold I64
        decide
theorem up_ok {p : Pk} (h : Ok2 p) : (upAns p).ok := by
  rcases Classical.em (UpOk p) with hu | hu
  · rw [(up_t hu).1]
    obtain ⟨u1, u2, u3, u4, u5, u6, u7, u8⟩ := hu
    refine ⟨by show (mvs p p.dflt.length).length ≤ _; rw [mvs_len]; omega, by show (gos p p.dflt.length).length ≤ _; rw [gos_len]; omega, fun r hr => ?_, fun r hr => ?_⟩
    · obtain ⟨s, _, rfl⟩ := List.mem_map.1 (show r ∈ mvs p p.dflt.length from hr)
      refine ⟨by rw [mvRow_len]; omega, fun m hm => ?_⟩
      obtain ⟨k, _, rfl⟩ := List.mem_map.1 (show m ∈ mvRow p s p.kinds.toNat from hm)
      exact lookMv_i64 h _ _
    · obtain ⟨s, _, rfl⟩ := List.mem_map.1 (show r ∈ gos p p.dflt.length from hr)
      refine ⟨by rw [goRw_len]; omega, fun m hm => ?_⟩
      obtain ⟨k, _, rfl⟩ := List.mem_map.1 (show m ∈ goRw p s p.rules.toNat from hm)
      exact lookGo_i64 h _ _
  · rw [(up_f hu).1]
    exact ⟨by decide, by decide, fun r hr => by simp at hr, fun r hr => by simp at hr⟩
theorem nine {cs : List Value} (h : cs.length = 9) : ∃ a b c d e f g h i, cs = [a, b, c, d, e, f, g, h, i] := by
  match cs, h with
  | [a, b, c, d, e, f, g, h, i], _ => exact ⟨a, b, c, d, e, f, g, h, i, rfl⟩
set_option maxRecDepth 100000 in
theorem given {H : Type} {enc : TypeId × Value → H} {w : World} {base : Nat} {spare : Nat → Bool} {held : Bool} {fuel : Nat} {cs : List Value} {x : DataW H × List MemPlace} (h : DataW.trod enc Try.prog w base spare held fuel 41 cs = some x) (hb : Rows.uptoBulk x.1 ≤ 1048576) :
    ∃ (p : Pk) (a : PkA), cs = p.cells a ∧ p.rd w a ∧ p.ok ∧ Ok2 p := by
  obtain ⟨xs, n, _, rfl, hl, hlen, hf⟩ := DataW.trod_struct Try.underlying41 h
  have c41 : Try.prog.cellsOf 41 = 9 := by kernel_rfl
  have c38 : Try.prog.cellsOf 38 = 1 := by kernel_rfl
  have c39 : Try.prog.cellsOf 39 = 1 := by kernel_rfl
  have c3 : Try.prog.cellsOf 3 = 1 := by kernel_rfl
  rw [c41] at hl
  match xs, hlen with
  | [y0, y1, y2, y3, y4, y5, y6, y7, y8], _ =>
    obtain ⟨a0, a1, a2, a3, a4, a5, a6, a7, a8, rfl⟩ := nine hl
    have e0 := hf 0 _ rfl
    have e1 := hf 1 _ rfl
    have e2 := hf 2 _ rfl
    have e3 := hf 3 _ rfl
    have e4 := hf 4 _ rfl
    have e5 := hf 5 _ rfl
    have e6 := hf 6 _ rfl
    have e7 := hf 7 _ rfl
    have e8 := hf 8 _ rfl
    clear hf
    simp [c3] at e0 e1
    simp [c38] at e2 e5
    simp [c39] at e3 e4 e6 e7 e8
    obtain ⟨k, hk, _, wk⟩ := DataW.trod_int Try.underlying3 e0
    obtain ⟨r, hr, _, wr⟩ := DataW.trod_int Try.underlying3 e1
    obtain ⟨d, ⟨A2, k2, h2, _, r2⟩, b2⟩ := rMvs.rd e2
    obtain ⟨b, ⟨A3, k3, h3, _, r3⟩, b3⟩ := rInts.rd e3
    obtain ⟨c, ⟨A4, k4, h4, _, r4⟩, b4⟩ := rInts.rd e4
    obtain ⟨e, ⟨A5, k5, h5, _, r5⟩, b5⟩ := rMvs.rd e5
    obtain ⟨gb, ⟨A6, k6, h6, _, r6⟩, b6⟩ := rInts.rd e6
    obtain ⟨gc, ⟨A7, k7, h7, _, r7⟩, b7⟩ := rInts.rd e7
    obtain ⟨ge, ⟨A8, k8, h8, _, r8⟩, b8⟩ := rInts.rd e8
    simp at hk hr h2 h3 h4 h5 h6 h7 h8
    subst hk hr h2 h3 h4 h5 h6 h7 h8
    simp only [List.map_cons, List.map_nil, Rows.uptoBulk, Rows.uptoBulkAll] at hb
    have w1 : ∀ {xs : List Int} {n : Nat}, BInt xs n → ∀ x ∈ xs, I64 x := fun h x hx => by obtain ⟨_, _, h4, _⟩ := h.2 x hx; exact i64_wf h4
    have w2 : ∀ {xs : List Mv} {n : Nat}, BMv xs n → ∀ x ∈ xs, I64 x.d ∧ I64 x.n := fun h x hx => by obtain ⟨_, _, h4, _⟩ := h.2 x hx; exact h4
    exact ⟨⟨k, r, d, b, c, e, gb, gc, ge⟩, ⟨A2, A3, A4, A5, A6, A7, A8, k2, k3, k4, k5, k6, k7, k8⟩, rfl, ⟨r2, r3, r4, r5, r6, r7, r8⟩,
      ⟨i64_wf wk, i64_wf wr, by have := b2.1; show d.length ≤ _; omega, by have := b3.1; show b.length ≤ _; omega, by have := b4.1; show c.length ≤ _; omega, by have := b5.1; show e.length ≤ _; omega, by have := b6.1; show gb.length ≤ _; omega, by have := b7.1; show gc.length ≤ _; omega, by have := b8.1; show ge.length ≤ _; omega, w1 b3, w1 b6⟩, ⟨w2 b2, w2 b5, w1 b8⟩⟩
set_option maxRecDepth 100000 in
theorem contract (H : Type) (enc : TypeId × Value → H) (W : World) (base : Nat) (args : Array Value) (ds gs : List (DataW H)) (before : List MemPlace)
    (hval : ∀ (j : Nat) t v, Try.f7.params[j]? = some t → args[j]? = some v → Value.okWide Try.prog W .any base t v)
    (hW : DataW.Whole enc Try.prog Try.f7.params.toList Rows.tableLooksSpec.vars false W args.toList ds gs before) (hk : Rows.uptoSmall H (ds ++ gs) = true) :
    Calls Try.prog 7 args W fun e W' => ∃ v, e = .returned v ∧ Rows.tableLooksSpec.post enc Try.prog Try.f7 false true false false W args v W' := by
  have hW' := hW
  obtain ⟨p, q, hA0, hV, rfl, hfz, hnd⟩ := hW
  have hA : DataW.TrodAll enc Try.prog W 0 (fun _ => true) true Try.f7.params.toList args.toList ds p := hA0
  rw [Try.params7] at hA hval
  obtain ⟨v0, vs0, d0, ds0, p0, q0, hargs, rfl, rfl, h0, r0⟩ := trodAll_cons hA
  obtain ⟨v1, vs1, d1, ds1, p1, q1, rfl, rfl, rfl, h1, r1⟩ := trodAll_cons r0
  obtain ⟨v2, vs2, d2, ds2, p2, q2, rfl, rfl, rfl, h2, r2⟩ := trodAll_cons r1
  obtain ⟨rfl, rfl, rfl⟩ := trodAll_nil r2
  obtain rfl : args = #[v0, v1, v2] := by cases args; simp_all
  obtain ⟨rfl, rfl⟩ := trodVars_none hV
  have k0 := h0
  have lt0 : ∀ x ∈ p0, x.block < W.heap.size := by obtain ⟨m, hm⟩ := k0; exact DataW.trod_lt m _ _ _ hm
  obtain ⟨cs, rfl, hcs⟩ := okWide_struct Try.underlying41 (hval 0 41 v0 rfl rfl)
  obtain ⟨s, rfl, rfl, rfl, w1⟩ := open_int Try.underlying3 (hval 1 3 v1 rfl rfl) h1
  obtain ⟨k, rfl, rfl, rfl, w2⟩ := open_int Try.underlying3 (hval 2 3 v2 rfl rfl) h2
  have hb : Rows.uptoBulkAll ([d0, .lit (.int .i64 s), .lit (.int .i64 k)] ++ []) ≤ 1048576 := of_decide_eq_true hk
  simp only [List.append_nil, Rows.uptoBulkAll] at hb
  obtain ⟨fuel, hf⟩ := h0
  obtain ⟨p, a, hcs2, hr, hok, hok2⟩ := given hf (show Rows.uptoBulk d0 ≤ 1048576 by omega)
  obtain ⟨l⟩ := cs
  change l = _ at hcs2
  subst hcs2
  clear hA0
  refine (TLooks.tableLooks_calls hr hok (up_ok hok2) (i64_wf w1) (i64_wf w2)).mono fun e W' ⟨v, he, hv, hH⟩ => ?_
  subst he hv
  have bel := hH.old
  exact ⟨_, rfl, _, _, _, [], _, [], hW', trodAll_mk1 (shut_bool Try.underlying4 _), (trodAll_cons_mk (Below.trod laidOut (by kernel_rfl) (of_decide_eq_true (by kernel_rfl)) k0 bel lt0) (trodAll_cons_mk (shut_int Try.underlying3 w1) (trodAll_cons_mk (shut_int Try.underlying3 w2) trodAll_mk0))), rfl, bel.frame _, fun h => by cases h⟩
set_option maxRecDepth 100000 in
theorem lifted (os : Os) (started : os.Started) (H : Type) (enc : TypeId × Value → H) (F : Stop.Interp) :
    ReturnsInHanded {} Try.checked os 7 .any ((Rows.OpenSpec.upto Rows.tableLooksSpec).pre6 enc Try.prog Try.f7 Rows.tableLooksUptoRow.domain false) (((Rows.OpenSpec.upto Rows.tableLooksSpec).at F).post enc Try.prog Try.f7 false true false false) := by
  refine returnsInHanded_of_cond (C := Try.checked) (s := Rows.OpenSpec.upto Rows.tableLooksSpec) (k := Rows.uptoSmall) rfl own started (by kernel_rfl) Try.func7
    (OpenSpec.witness (enc := enc) (C := Try.checked) (s := Rows.OpenSpec.upto Rows.tableLooksSpec) (k := Rows.uptoSmall) rfl false ⟨#[], #[.agg #[.int .i64 0, .int .i64 0, .slice none 0 0, .slice none 0 0, .slice none 0 0, .slice none 0 0, .slice none 0 0, .slice none 0 0, .slice none 0 0], .int .i64 0, .int .i64 0], []⟩ 8 (by kernel_rfl) (by kernel_rfl) (by kernel_rfl)
      (x := ([.agg [.lit (.int .i64 0), .lit (.int .i64 0), .nil, .nil, .nil, .nil, .nil, .nil, .nil], .lit (.int .i64 0), .lit (.int .i64 0)], [], [])) (by kernel_rfl) rfl (by kernel_rfl)) ?_
  intro W base args ds gs before hval hW _ hk _
  exact contract H enc W base args ds gs before hval hW hk
theorem proved : Rows.TableLooksUptoSaid :=
  OpenClaim.holds_of_cond 7 Try.f7 rfl rfl rfl rfl rfl rfl rfl ⟨rfl, rfl, rfl, rfl, rfl⟩ rfl rfl rfl rfl rfl (by kernel_rfl) Try.func7 (by kernel_rfl)
    (of_decide_eq_true (by kernel_rfl)) (by unfold Func.isWrapper; first | (rw [if_pos (by decide +kernel)]; kernel_rfl) | (rw [if_neg (by decide +kernel)]; exact ⟨rfl, rfl⟩))
    (fun os started H enc _ F => lifted os started H enc F)
#print axioms proved
end Go.Proofs.Ytkpehkadammppaa.tableLooks
