/- The row of TableBack, of bulk at most the bound. -/
import Derived.Test.YtkpehkadammppaaK13
set_option linter.unusedVariables false
namespace Go.Proofs.Ytkpehkadammppaa.tableBack
open Go Go.ChangeShapes Go.WideShapes Go.ChangeAt Go.RowKit Go.Deep Go.Joins Go.Proofs.YtkpehkadammppaaFx
theorem own : ownKnob Try.prog.godebug = none := by kernel_rfl
theorem laidOut : laidOutB Try.prog = true := by kernel_rfl
theorem rInt : Rds Try.prog 3 (kInt .i64) (fun a n => (Lit.int .i64 a).wf = true ∧ 1 ≤ n) := rds_int Try.underlying3 (by kernel_rfl)
theorem rMv : Rds Try.prog 48 fMv.kn (fun a n => (I64 a.d ∧ I64 a.n) ∧ 1 ≤ n) := rds_mv Try.underlying48 Try.underlying3 (by kernel_rfl) (by kernel_rfl) rfl rfl
abbrev SMv (mv : List (List Mv)) (n : Nat) : Prop := ((mv.map fun r => r.length + 1).sum + 1 ≤ n ∧ mv.length + 1 ≤ n) ∧ ∀ x ∈ mv, ∃ m, m ≤ n ∧ BMv x m
abbrev SGo (go : List (List Int)) (n : Nat) : Prop := ((go.map fun r => r.length + 1).sum + 1 ≤ n ∧ go.length + 1 ≤ n) ∧ ∀ x ∈ go, ∃ m, m ≤ n ∧ BInt x m
theorem rTb : Rds Try.prog 25 kTb (fun a n => ∃ n0 n1, n0 + n1 ≤ n ∧ SMv a.mv n0 ∧ SGo a.go n1) :=
  rds_tb Try.underlying25 (by kernel_rfl) rfl rfl (rds_slS (fun r => r.length + 1) (fun a n h => h.1) Try.underlying22 (by kernel_rfl) (rds_sl Try.underlying38 (by kernel_rfl) rMv)) (rds_slS (fun r => r.length + 1) (fun a n h => h.1) Try.underlying23 (by kernel_rfl) (rds_sl Try.underlying39 (by kernel_rfl) rInt))
theorem rU8 : Rds Try.prog 5 (kInt .u8) (fun a n => (Lit.int .u8 a).wf = true ∧ 1 ≤ n) := rds_int Try.underlying5 (by kernel_rfl)
theorem rBs : Rds Try.prog 64 (kInt .u8).sl (fun xs n => xs.length + 1 ≤ n ∧ ∀ x ∈ xs, ∃ m, m ≤ n ∧ (Lit.int .u8 x).wf = true ∧ 1 ≤ m) := rds_sl Try.underlying64 (by kernel_rfl) rU8
theorem u8_wf {a : Int} (h : (Lit.int .u8 a).wf = true) : 0 ≤ a ∧ a < 256 := by
  have e1 : (if IntKind.u8.signed = true then -(2 ^ (IntKind.u8.bits - 1) : Int) else 0) = 0 := rfl
  have h1 : 0 ≤ a ∧ a ≤ IntKind.u8.max := by simpa [Lit.wf, IntKind.min, e1] using h
  have h2 : IntKind.u8.max = 255 := by decide
  omega
theorem tb_bsm {a : Tb} {n0 n1 : Nat} (h0 : SMv a.mv n0) (h1 : SGo a.go n1) (hn : n0 + n1 ≤ 1048576) : BSm a ∧ rowsN a.mv ≤ 1048576 ∧ rowsN a.go ≤ 1048576 := by
  obtain ⟨⟨s0, l0⟩, r0⟩ := h0
  obtain ⟨⟨s1, l1⟩, r1⟩ := h1
  refine ⟨⟨tb_ok (n0 := n0) (n1 := n1) ⟨l0, r0⟩ ⟨l1, r1⟩ hn, by omega, fun r hr => ?_, fun r hr => ?_⟩, by unfold rowsN; omega, by unfold rowsN; omega⟩
  · obtain ⟨m, hm, h2, _⟩ := r0 r hr
    omega
  · obtain ⟨m, hm, h2, _⟩ := r1 r hr
    omega
theorem five_len {cs : List Value} (h : cs.length = 5) : ∃ a b c d e, cs = [a, b, c, d, e] := by
  match cs, h with
  | [a, b, c, d, e], _ => exact ⟨a, b, c, d, e, rfl⟩
theorem given {H : Type} {enc : TypeId × Value → H} {w : World} {base : Nat} {spare : Nat → Bool} {held : Bool} {fuel : Nat} {cs : List Value} {x : DataW H × List MemPlace} (h : DataW.trod enc Try.prog w base spare held fuel 27 cs = some x) (hb : Rows.uptoBulk x.1 ≤ 1048576) :
    ∃ (t : Tb) (A B : Option Addr) (ca cb : Nat) (k r p : Int), cs = [.slice A t.mv.length ca, .slice B t.go.length cb, .int .i64 k, .int .i64 r, .int .i64 p] ∧ t.rd w A B ∧ (BSm t ∧ rowsN t.mv ≤ 1048576 ∧ rowsN t.go ≤ 1048576) ∧ I64 k ∧ I64 r ∧ I64 p ∧ 3 ≤ Rows.uptoBulk x.1 := by
  obtain ⟨y0, y1, y2, y3, n, rfl, hl, e0, e1, e2, e3⟩ := trod_struct4 Try.underlying27 h
  have c27 : Try.prog.cellsOf 27 = 5 := by kernel_rfl
  have c25 : Try.prog.cellsOf 25 = 2 := by kernel_rfl
  have c3 : Try.prog.cellsOf 3 = 1 := by kernel_rfl
  rw [c27] at hl
  obtain ⟨a0, a1, a2, a3, a4, rfl⟩ := five_len hl
  · simp only [c25] at e0
    simp only [c3] at e1 e2 e3
    obtain ⟨t, ⟨A, B, ca, cb, ht, hr⟩, n0, n1, hn, h0, h1⟩ := rTb.rd e0
    obtain ⟨k, hk, _, wk⟩ := DataW.trod_int Try.underlying3 e1
    obtain ⟨r, hr', _, wr⟩ := DataW.trod_int Try.underlying3 e2
    obtain ⟨p, hp, _, wp⟩ := DataW.trod_int Try.underlying3 e3
    simp at ht hk hr' hp
    obtain ⟨rfl, rfl⟩ := ht
    subst hk hr' hp
    simp only [Rows.uptoBulk, Rows.uptoBulkAll] at hb ⊢
    have q0 := h0.1.2
    have q1 := h1.1.2
    exact ⟨t, A, B, ca, cb, k, r, p, rfl, hr, tb_bsm h0 h1 (by omega), i64_wf wk, i64_wf wr, i64_wf wp, by omega⟩
set_option maxRecDepth 100000 in
theorem contract (H : Type) (enc : TypeId × Value → H) (W : World) (base : Nat) (args : Array Value) (ds gs : List (DataW H)) (before : List MemPlace)
    (hval : ∀ (j : Nat) t v, Try.f9.params[j]? = some t → args[j]? = some v → Value.okWide Try.prog W .any base t v)
    (hW : DataW.Whole enc Try.prog Try.f9.params.toList Rows.tableBackSpec.vars false W args.toList ds gs before) (hk : Rows.uptoSmall H (ds ++ gs) = true) :
    Calls Try.prog 9 args W fun e W' => ∃ v, e = .returned v ∧ Rows.tableBackSpec.post enc Try.prog Try.f9 false true false false W args v W' := by
  have hW' := hW
  obtain ⟨p, q, hA0, hV, rfl, hfz, hnd⟩ := hW
  have hA : DataW.TrodAll enc Try.prog W 0 (fun _ => true) true Try.f9.params.toList args.toList ds p := hA0
  rw [Try.params9] at hA hval
  obtain ⟨v0, vs0, d0, ds0, p0, q0, hargs, rfl, rfl, h0, r0⟩ := trodAll_cons hA
  obtain ⟨v1, vs1, d1, ds1, p1, q1, rfl, rfl, rfl, h1, r1⟩ := trodAll_cons r0
  obtain ⟨rfl, rfl, rfl⟩ := trodAll_nil r1
  obtain rfl : args = #[v0, v1] := by cases args; simp_all
  obtain ⟨rfl, rfl⟩ := trodVars_none hV
  have k0 := h0
  have lt0 : ∀ x ∈ p0, x.block < W.heap.size := by obtain ⟨m, hm⟩ := k0; exact DataW.trod_lt m _ _ _ hm
  have k1 := h1
  have lt1 : ∀ x ∈ p1, x.block < W.heap.size := by obtain ⟨m, hm⟩ := k1; exact DataW.trod_lt m _ _ _ hm
  obtain ⟨cs, rfl, hcs⟩ := okWide_struct Try.underlying27 (hval 0 27 v0 rfl rfl)
  obtain ⟨A1, l1, z1, rfl⟩ := okWide_slice Try.underlying64 (hval 1 64 v1 rfl rfl)
  have hb : Rows.uptoBulkAll ([d0, d1] ++ []) ≤ 1048576 := of_decide_eq_true hk
  simp only [List.append_nil, Rows.uptoBulkAll] at hb
  obtain ⟨fuel, hf⟩ := h0
  obtain ⟨fuel1, hf1⟩ := h1
  obtain ⟨t, A, B, ca, cb, k, r, p', hct, hr, ⟨hbs, hs1, hs2⟩, ik, ir, ip, hge⟩ := given hf (show Rows.uptoBulk d0 ≤ 1048576 by omega)
  obtain ⟨bs, ⟨R, cr, hcr, hcap, hrb⟩, hbl, hbw⟩ := rBs.rd hf1
  have e1 : (Value.slice A1 l1 z1).cells.toList = [.slice A1 l1 z1] := rfl
  rw [e1] at hcr
  injection hcr with hcr _
  rw [hcr] at hA0 hW' k1 ⊢
  obtain ⟨l⟩ := cs
  change l = _ at hct
  subst hct
  clear hA0
  have hB : Bytes bs := fun x hx => by
    obtain ⟨_, _, h4, _⟩ := hbw x hx
    exact u8_wf h4
  have hbl' : bs.length + 1 ≤ Rows.uptoBulk d1 := hbl
  have hge' : 3 ≤ Rows.uptoBulk d0 := hge
  refine (TBack.tableBack_calls hr ⟨hbs.ok, hbs.mr, hbs.gr⟩ hbs (fun h => tbB_len hbs h hs1 hs2) ik ir ip hrb hB (by omega) hcap).mono fun e W' ⟨v, he, hv, hH⟩ => ?_
  subst he hv
  have bel := hH.old
  exact ⟨_, rfl, _, _, _, [], _, [], hW', trodAll_mk1 (shut_bool Try.underlying4 _), (trodAll_cons_mk (Below.trod laidOut (by kernel_rfl) (of_decide_eq_true (by kernel_rfl)) k0 bel lt0) (trodAll_cons_mk (Below.trod laidOut (by kernel_rfl) (of_decide_eq_true (by kernel_rfl)) k1 bel lt1) trodAll_mk0)), rfl, bel.frame _, fun h => by cases h⟩
set_option maxRecDepth 100000 in
theorem lifted (os : Os) (started : os.Started) (H : Type) (enc : TypeId × Value → H) (F : Stop.Interp) :
    ReturnsInHanded {} Try.checked os 9 .any ((Rows.OpenSpec.upto Rows.tableBackSpec).pre6 enc Try.prog Try.f9 Rows.tableBackUptoRow.domain false) (((Rows.OpenSpec.upto Rows.tableBackSpec).at F).post enc Try.prog Try.f9 false true false false) := by
  refine returnsInHanded_of_cond (C := Try.checked) (s := Rows.OpenSpec.upto Rows.tableBackSpec) (k := Rows.uptoSmall) rfl own started (by kernel_rfl) Try.func9
    (OpenSpec.witness (enc := enc) (C := Try.checked) (s := Rows.OpenSpec.upto Rows.tableBackSpec) (k := Rows.uptoSmall) rfl false ⟨#[], #[.agg #[.slice none 0 0, .slice none 0 0, .int .i64 0, .int .i64 0, .int .i64 0], .slice none 0 0], []⟩ 8 (by kernel_rfl) (by kernel_rfl) (by kernel_rfl)
      (x := ([.agg [.agg [.nil, .nil], .lit (.int .i64 0), .lit (.int .i64 0), .lit (.int .i64 0)], .nil], [], [])) (by kernel_rfl) rfl (by kernel_rfl)) ?_
  intro W base args ds gs before hval hW _ hk _
  exact contract H enc W base args ds gs before hval hW hk
theorem proved : Rows.TableBackUptoSaid :=
  OpenClaim.holds_of_cond 9 Try.f9 rfl rfl rfl rfl rfl rfl rfl ⟨rfl, rfl, rfl, rfl, rfl⟩ rfl rfl rfl rfl rfl (by kernel_rfl) Try.func9 (by kernel_rfl)
    (of_decide_eq_true (by kernel_rfl)) (by unfold Func.isWrapper; first | (rw [if_pos (by decide +kernel)]; kernel_rfl) | (rw [if_neg (by decide +kernel)]; exact ⟨rfl, rfl⟩))
    (fun os started H enc _ F => lifted os started H enc F)
#print axioms proved
end Go.Proofs.Ytkpehkadammppaa.tableBack
