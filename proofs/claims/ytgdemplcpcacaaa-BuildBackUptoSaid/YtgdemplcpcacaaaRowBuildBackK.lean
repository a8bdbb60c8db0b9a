/- The row of BuildBack, of bulk at most the bound. -/
import Derived.Test.YtgdemplcpcacaaaK13
set_option linter.unusedVariables false
namespace Go.Proofs.Ytgdemplcpcacaaa.buildBack
open Go Go.ChangeShapes Go.WideShapes Go.ChangeAt Go.RowKit Go.Deep Go.Joins Go.Proofs.YtgdemplcpcacaaaFx Go.Proofs.Ytgdemplcpcacaaa.RowTy
theorem six_len {cs : List Value} (h : cs.length = 6) : ∃ a b c d e f, cs = [a, b, c, d, e, f] := by
  match cs, h with
  | [a, b, c, d, e, f], _ => exact ⟨a, b, c, d, e, f, rfl⟩
theorem rTk : Rds Try.prog 85 fTk.kn (fun _ n => 1 ≤ n) := by
  obtain ⟨f0, f1, f2, hu, h0, h1, h2⟩ : ∃ f0 f1 f2 : Field, Try.prog.underlying 85 = some (.struct #[f0, f1, f2]) ∧ (f0.type, f0.offset) = (3, 0) ∧ (f1.type, f1.offset) = (3, 1) ∧ (f2.type, f2.offset) = (3, 2) := ⟨_, _, _, Try.underlying85, rfl, rfl, rfl⟩
  simp only [Prod.mk.injEq] at h0 h1 h2
  have hc : Try.prog.cellsOf 85 = 3 := by kernel_rfl
  refine ⟨hc, fun {H enc w base spare held fuel cs x} h => ?_⟩
  obtain ⟨xs, n, hb, hl, hlen, hf⟩ := fields_of hu h
  rw [hc] at hl
  obtain ⟨c0, c1, c2, rfl⟩ := three_len hl
  obtain ⟨y0, i0, e0⟩ := hf 0 f0 rfl
  obtain ⟨y1, i1, e1⟩ := hf 1 f1 rfl
  obtain ⟨y2, i2, e2⟩ := hf 2 f2 rfl
  have s0 : Try.prog.cellsOf 3 = 1 := rInt.sz
  rw [h0.1, h0.2, s0] at e0
  rw [h1.1, h1.2, s0] at e1
  rw [h2.1, h2.2, s0] at e2
  obtain ⟨a0, k0, b0, _⟩ := rInt.rd e0
  obtain ⟨a1, k1, b1, _⟩ := rInt.rd e1
  obtain ⟨a2, k2, b2, _⟩ := rInt.rd e2
  have g0 : [c0] = [Value.int .i64 a0] := k0
  have g1 : [c1] = [Value.int .i64 a1] := k1
  have g2 : [c2] = [Value.int .i64 a2] := k2
  simp only [List.cons.injEq, and_true] at g0 g1 g2
  subst g0 g1 g2
  exact ⟨⟨a0, a1, a2⟩, rfl, by omega⟩
theorem rTks : Rds Try.prog 25 fTk.kn.sl (fun xs n => xs.length + 1 ≤ n ∧ ∀ x ∈ xs, ∃ m, m ≤ n ∧ 1 ≤ m) := rds_sl Try.underlying25 (by kernel_rfl) rTk
/-- A node, a text, its tokens. -/
theorem rd_sh {H : Type} {enc : TypeId × Value → H} {w : World} {base : Nat} {spare : Nat → Bool} {held : Bool} {fuel : Nat} {cs : List Value} {x : DataW H × List MemPlace} (h : DataW.trod enc Try.prog w base spare held fuel 27 cs = some x) (hN : Rows.uptoBulk x.1 ≤ 1048576) :
    ∃ (t : Nd) (src : ByteArray) (toks : List Tk) (A B : Option Addr) (k kt : Nat), cs = [.int .i64 t.x.kind, .string t.x.name, .int .i64 t.x.tok, .slice B t.kids.length k, .string src, .slice A toks.length kt] ∧ Rd (kTr fNd) w B t.kids ∧ t.cnt ≤ 1048576 ∧ t.All (ndSm 1048576) ∧ src.size ≤ 1048576 ∧ toks.length ≤ 1048576 ∧ Rd fTk.kn w A toks := by
  obtain ⟨f0, f1, f2, hu, h0, h1, h2⟩ : ∃ f0 f1 f2 : Field, Try.prog.underlying 27 = some (.struct #[f0, f1, f2]) ∧ (f0.type, f0.offset) = (24, 0) ∧ (f1.type, f1.offset) = (9, 4) ∧ (f2.type, f2.offset) = (25, 5) := ⟨_, _, _, Try.underlying27, rfl, rfl, rfl⟩
  simp only [Prod.mk.injEq] at h0 h1 h2
  obtain ⟨xs, n, hb, hl, hlen, hf⟩ := fields_of hu h
  rw [show Try.prog.cellsOf 27 = 6 by kernel_rfl] at hl
  obtain ⟨c0, c1, c2, c3, c4, c5, rfl⟩ : ∃ a b c d e f, cs = [a, b, c, d, e, f] := six_len hl
  obtain ⟨y0, i0, e0⟩ := hf 0 f0 rfl
  obtain ⟨y1, i1, e1⟩ := hf 1 f1 rfl
  obtain ⟨y2, i2, e2⟩ := hf 2 f2 rfl
  rw [h0.1, h0.2, show Try.prog.cellsOf 24 = 4 by kernel_rfl] at e0
  rw [h1.1, h1.2, rStr.sz] at e1
  rw [h2.1, h2.2, show Try.prog.cellsOf 25 = 1 by kernel_rfl] at e2
  have p0 := part_le i0
  have p1 := part_le i1
  have p2 := part_le i2
  obtain ⟨t, B, k, hB, hr, hcn, hsm, _⟩ := rd_nd e0 (by omega)
  obtain ⟨src, k1, b1⟩ := rStr.rd e1
  obtain ⟨toks, ⟨A, kt, k2, _, hT⟩, b2, _⟩ := rTks.rd e2
  have g0 : [c0, c1, c2, c3] = [Value.int .i64 t.x.kind, .string t.x.name, .int .i64 t.x.tok, .slice B t.kids.length k] := hB
  have g1 : [c4] = [Value.string src] := k1
  have g2 : [c5] = [Value.slice A toks.length kt] := k2
  simp only [List.cons.injEq, and_true] at g0 g1 g2
  obtain ⟨q1, q2, q3, q4⟩ := g0
  subst q1 q2 q3 q4 g1 g2
  exact ⟨t, src, toks, A, B, k, kt, rfl, hr, hcn, hsm, by omega, by omega, hT⟩
set_option maxRecDepth 100000 in
theorem contract (H : Type) (enc : TypeId × Value → H) (W : World) (base : Nat) (args : Array Value) (ds gs : List (DataW H)) (before : List MemPlace)
    (hval : ∀ (j : Nat) t v, Try.f3.params[j]? = some t → args[j]? = some v → Value.okWide Try.prog W .any base t v)
    (hW : DataW.Whole enc Try.prog Try.f3.params.toList Rows.buildBackSpec.vars false W args.toList ds gs before) (hk : Rows.uptoSmall H (ds ++ gs) = true) :
    Calls Try.prog 3 args W fun e W' => ∃ v, e = .returned v ∧ Rows.buildBackSpec.post enc Try.prog Try.f3 false true false false W args v W' := by
  have hW' := hW
  obtain ⟨p, q, hA0, hV, rfl, hfz, hnd⟩ := hW
  have hA : DataW.TrodAll enc Try.prog W 0 (fun _ => true) true Try.f3.params.toList args.toList ds p := hA0
  rw [Try.params3] at hA hval
  obtain ⟨v0, vs0, d0, ds0, p0, q0, hargs, rfl, rfl, h0, r0⟩ := trodAll_cons hA
  obtain ⟨v1, vs1, d1, ds1, p1, q1, rfl, rfl, rfl, h1, r1⟩ := trodAll_cons r0
  obtain ⟨rfl, rfl, rfl⟩ := trodAll_nil r1
  obtain rfl : args = #[v0, v1] := by cases args; simp_all
  obtain ⟨rfl, rfl⟩ := trodVars_none hV
  have k0 := h0
  have lt0 : ∀ x ∈ p0, x.block < W.heap.size := by obtain ⟨m, hm⟩ := k0; exact DataW.trod_lt m _ _ _ hm
  have k1 := h1
  have lt1 : ∀ x ∈ p1, x.block < W.heap.size := by obtain ⟨m, hm⟩ := k1; exact DataW.trod_lt m _ _ _ hm
  obtain ⟨ss, rfl⟩ := okWide_string Try.underlying9 (hval 1 9 v1 rfl rfl)
  obtain ⟨cs, rfl, hcs⟩ := okWide_struct Try.underlying27 (hval 0 27 v0 rfl rfl)
  have hb : Rows.uptoBulkAll ([d0, d1] ++ []) ≤ 1048576 := of_decide_eq_true hk
  simp only [List.append_nil, Rows.uptoBulkAll] at hb
  obtain ⟨fuel, hf⟩ := h0
  obtain ⟨t, src, toks, A, B, k, kt, hct, hr, hcn, hsm, hss, htl, hT⟩ := rd_sh hf (show Rows.uptoBulk d0 ≤ 1048576 by omega)
  obtain ⟨fuel1, hf1⟩ := h1
  obtain ⟨s, hs1, hs2⟩ := rStr.rd hf1
  have hs3 : [Value.string ss] = [Value.string s] := hs1
  simp only [List.cons.injEq, Value.string.injEq, and_true] at hs3
  subst hs3
  have hs4 : ss.size + 1 ≤ Rows.uptoBulk d1 := hs2
  obtain ⟨l⟩ := cs
  change l = _ at hct
  subst hct
  clear hA0
  refine (BBack.back_calls hss htl hT hr (small_nd hsm) hcn (show ss.size ≤ 1048576 by omega)).mono fun e W' ⟨v, he, hv, hH⟩ => ?_
  subst he hv
  have bel := hH.old
  exact ⟨_, rfl, _, _, _, [], _, [], hW', trodAll_mk1 (shut_bool Try.underlying4 _), (trodAll_cons_mk (Below.trod laidOut (by kernel_rfl) (of_decide_eq_true (by kernel_rfl)) k0 bel lt0) (trodAll_cons_mk (Below.trod laidOut (by kernel_rfl) (of_decide_eq_true (by kernel_rfl)) k1 bel lt1) trodAll_mk0)), rfl, bel.frame _, fun h => by cases h⟩
set_option maxRecDepth 100000 in
theorem lifted (os : Os) (started : os.Started) (H : Type) (enc : TypeId × Value → H) (F : Stop.Interp) :
    ReturnsInHanded {} Try.checked os 3 .any ((Rows.OpenSpec.upto Rows.buildBackSpec).pre6 enc Try.prog Try.f3 Rows.buildBackUptoRow.domain false) (((Rows.OpenSpec.upto Rows.buildBackSpec).at F).post enc Try.prog Try.f3 false true false false) := by
  refine returnsInHanded_of_cond (C := Try.checked) (s := Rows.OpenSpec.upto Rows.buildBackSpec) (k := Rows.uptoSmall) rfl own started (by kernel_rfl) Try.func3
    (OpenSpec.witness (enc := enc) (C := Try.checked) (s := Rows.OpenSpec.upto Rows.buildBackSpec) (k := Rows.uptoSmall) rfl false ⟨#[], #[.agg #[.int .i64 0, .string ⟨#[]⟩, .int .i64 0, .slice none 0 0, .string ⟨#[]⟩, .slice none 0 0], .string ⟨#[]⟩], []⟩ 8 (by kernel_rfl) (by kernel_rfl) (by kernel_rfl)
      (x := ([.agg [.agg [.lit (.int .i64 0), .lit (.string []), .lit (.int .i64 0), .nil], .lit (.string []), .nil], .lit (.string [])], [], [])) (by kernel_rfl) rfl (by kernel_rfl)) ?_
  intro W base args ds gs before hval hW _ hk _
  exact contract H enc W base args ds gs before hval hW hk
theorem proved : Rows.BuildBackUptoSaid :=
  OpenClaim.holds_of_cond 3 Try.f3 rfl rfl rfl rfl rfl rfl rfl ⟨rfl, rfl, rfl, rfl, rfl⟩ rfl rfl rfl rfl rfl (by kernel_rfl) Try.func3 (by kernel_rfl)
    (of_decide_eq_true (by kernel_rfl)) (by unfold Func.isWrapper; first | (rw [if_pos (by decide +kernel)]; kernel_rfl) | (rw [if_neg (by decide +kernel)]; exact ⟨rfl, rfl⟩))
    (fun os started H enc _ F => lifted os started H enc F)
#print axioms proved
end Go.Proofs.Ytgdemplcpcacaaa.buildBack
