/- The row of TableWrites, of bulk at most the bound. -/
import Derived.Test.YtkpehkadammppaaTWrites
import Derived.Test.YtkpehkadammppaaIn
set_option linter.unusedVariables false
namespace Go.Proofs.Ytkpehkadammppaa.tableWrites
open Go Go.ChangeShapes Go.WideShapes Go.ChangeAt Go.RowKit Go.Deep Go.Joins Go.Proofs.YtkpehkadammppaaFx
theorem own : ownKnob Try.prog.godebug = none := by kernel_rfl
theorem laidOut : laidOutB Try.prog = true := by kernel_rfl
theorem rInt : Rds Try.prog 3 (kInt .i64) (fun a n => (Lit.int .i64 a).wf = true ∧ 1 ≤ n) := rds_int Try.underlying3 (by kernel_rfl)
theorem rMv : Rds Try.prog 48 fMv.kn (fun a n => (I64 a.d ∧ I64 a.n) ∧ 1 ≤ n) := rds_mv Try.underlying48 Try.underlying3 (by kernel_rfl) (by kernel_rfl) rfl rfl
theorem rTb : Rds Try.prog 25 kTb (fun a n => ∃ n0 n1, n0 + n1 ≤ n ∧ (a.mv.length + 1 ≤ n0 ∧ ∀ x ∈ a.mv, ∃ m, m ≤ n0 ∧ BMv x m) ∧ (a.go.length + 1 ≤ n1 ∧ ∀ x ∈ a.go, ∃ m, m ≤ n1 ∧ BInt x m)) :=
  rds_tb Try.underlying25 (by kernel_rfl) rfl rfl (rds_sl Try.underlying22 (by kernel_rfl) (rds_sl Try.underlying38 (by kernel_rfl) rMv)) (rds_sl Try.underlying23 (by kernel_rfl) (rds_sl Try.underlying39 (by kernel_rfl) rInt))
theorem rU8 : Rds Try.prog 5 (kInt .u8) (fun a n => (Lit.int .u8 a).wf = true ∧ 1 ≤ n) := rds_int Try.underlying5 (by kernel_rfl)
theorem rBs : Rds Try.prog 64 (kInt .u8).sl (fun xs n => xs.length + 1 ≤ n ∧ ∀ x ∈ xs, ∃ m, m ≤ n ∧ (Lit.int .u8 x).wf = true ∧ 1 ≤ m) := rds_sl Try.underlying64 (by kernel_rfl) rU8
theorem u8_wf {a : Int} (h : (Lit.int .u8 a).wf = true) : 0 ≤ a ∧ a < 256 := by
  have e1 : (if IntKind.u8.signed = true then -(2 ^ (IntKind.u8.bits - 1) : Int) else 0) = 0 := rfl
  have h1 : 0 ≤ a ∧ a ≤ IntKind.u8.max := by simpa [Lit.wf, IntKind.min, e1] using h
  have h2 : IntKind.u8.max = 255 := by decide
  omega
theorem tb_bsm {a : Tb} {n0 n1 : Nat} (h0 : a.mv.length + 1 ≤ n0 ∧ ∀ x ∈ a.mv, ∃ m, m ≤ n0 ∧ BMv x m) (h1 : a.go.length + 1 ≤ n1 ∧ ∀ x ∈ a.go, ∃ m, m ≤ n1 ∧ BInt x m) (hn : n0 + n1 ≤ 1048576) : BSm a :=
  ⟨tb_ok h0 h1 hn, by omega, fun r hr => by
    obtain ⟨m, hm, h2, _⟩ := h0.2 r hr
    omega, fun r hr => by
    obtain ⟨m, hm, h2, _⟩ := h1.2 r hr
    omega⟩
theorem two_cells {cs : List Value} (h : cs.length = 2) : ∃ a b, cs = [a, b] := by
  match cs, h with
  | [a, b], _ => exact ⟨a, b, rfl⟩
set_option maxRecDepth 100000 in
theorem contract (H : Type) (enc : TypeId × Value → H) (W : World) (base : Nat) (args : Array Value) (ds gs : List (DataW H)) (before : List MemPlace)
    (hval : ∀ (j : Nat) t v, Try.f8.params[j]? = some t → args[j]? = some v → Value.okWide Try.prog W .any base t v)
    (hW : DataW.Whole enc Try.prog Try.f8.params.toList Rows.tableWritesSpec.vars false W args.toList ds gs before) (hk : Rows.uptoSmall H (ds ++ gs) = true) :
    Calls Try.prog 8 args W fun e W' => ∃ v, e = .returned v ∧ Rows.tableWritesSpec.post enc Try.prog Try.f8 false true false false W args v W' := by
  have hW' := hW
  obtain ⟨p, q, hA0, hV, rfl, hfz, hnd⟩ := hW
  have hA : DataW.TrodAll enc Try.prog W 0 (fun _ => true) true Try.f8.params.toList args.toList ds p := hA0
  rw [Try.params8] at hA hval
  obtain ⟨v0, vs0, d0, ds0, p0, q0, hargs, rfl, rfl, h0, r0⟩ := trodAll_cons hA
  obtain ⟨v1, vs1, d1, ds1, p1, q1, rfl, rfl, rfl, h1, r1⟩ := trodAll_cons r0
  obtain ⟨rfl, rfl, rfl⟩ := trodAll_nil r1
  obtain rfl : args = #[v0, v1] := by cases args; simp_all
  obtain ⟨rfl, rfl⟩ := trodVars_none hV
  have k0 := h0
  have lt0 : ∀ x ∈ p0, x.block < W.heap.size := by obtain ⟨m, hm⟩ := k0; exact DataW.trod_lt m _ _ _ hm
  have k1 := h1
  have lt1 : ∀ x ∈ p1, x.block < W.heap.size := by obtain ⟨m, hm⟩ := k1; exact DataW.trod_lt m _ _ _ hm
  obtain ⟨cs, rfl, hcs⟩ := okWide_struct Try.underlying25 (hval 0 25 v0 rfl rfl)
  obtain ⟨A1, l1, z1, rfl⟩ := okWide_slice Try.underlying64 (hval 1 64 v1 rfl rfl)
  have hb : Rows.uptoBulkAll ([d0, d1] ++ []) ≤ 1048576 := of_decide_eq_true hk
  simp only [List.append_nil, Rows.uptoBulkAll] at hb
  obtain ⟨fuel, hf⟩ := h0
  obtain ⟨fuel1, hf1⟩ := h1
  obtain ⟨t, ⟨A, B, ca, cb, hct, hr⟩, n0, n1, hn, b0, b1⟩ := rTb.rd hf
  obtain ⟨bs, ⟨R, cr, hcr, hcap, hrb⟩, hbl, hbw⟩ := rBs.rd hf1
  have e1 : (Value.slice A1 l1 z1).cells.toList = [.slice A1 l1 z1] := rfl
  rw [e1] at hcr
  injection hcr with hcr _
  rw [hcr] at hA0 hW' k1 ⊢
  obtain ⟨l⟩ := cs
  change l = _ at hct
  subst hct
  clear hA0
  have hB : Bytes bs := fun x hx => by
    obtain ⟨_, _, h4, _⟩ := hbw x hx
    exact u8_wf h4
  have hn' : n0 + n1 ≤ Rows.uptoBulk d0 := hn
  have hbl' : bs.length + 1 ≤ Rows.uptoBulk d1 := hbl
  have hb0 := b0.1
  have hb1 := b1.1
  refine (TWrites.tableWrites_calls hr (tb_bsm b0 b1 (by omega)) hrb hB (by omega) hcap).mono fun e W' ⟨v, he, hv, hH⟩ => ?_
  subst he hv
  have bel := hH.old
  exact ⟨_, rfl, _, _, _, [], _, [], hW', trodAll_mk1 (shut_bool Try.underlying4 _), (trodAll_cons_mk (Below.trod laidOut (by kernel_rfl) (of_decide_eq_true (by kernel_rfl)) k0 bel lt0) (trodAll_cons_mk (Below.trod laidOut (by kernel_rfl) (of_decide_eq_true (by kernel_rfl)) k1 bel lt1) trodAll_mk0)), rfl, bel.frame _, fun h => by cases h⟩
set_option maxRecDepth 100000 in
theorem lifted (os : Os) (started : os.Started) (H : Type) (enc : TypeId × Value → H) (F : Stop.Interp) :
    ReturnsInHanded {} Try.checked os 8 .any ((Rows.OpenSpec.upto Rows.tableWritesSpec).pre6 enc Try.prog Try.f8 Rows.tableWritesUptoRow.domain false) (((Rows.OpenSpec.upto Rows.tableWritesSpec).at F).post enc Try.prog Try.f8 false true false false) := by
  refine returnsInHanded_of_cond (C := Try.checked) (s := Rows.OpenSpec.upto Rows.tableWritesSpec) (k := Rows.uptoSmall) rfl own started (by kernel_rfl) Try.func8
    (OpenSpec.witness (enc := enc) (C := Try.checked) (s := Rows.OpenSpec.upto Rows.tableWritesSpec) (k := Rows.uptoSmall) rfl false ⟨#[], #[.agg #[.slice none 0 0, .slice none 0 0], .slice none 0 0], []⟩ 8 (by kernel_rfl) (by kernel_rfl) (by kernel_rfl)
      (x := ([.agg [.nil, .nil], .nil], [], [])) (by kernel_rfl) rfl (by kernel_rfl)) ?_
  intro W base args ds gs before hval hW _ hk _
  exact contract H enc W base args ds gs before hval hW hk
theorem proved : Rows.TableWritesUptoSaid :=
  OpenClaim.holds_of_cond 8 Try.f8 rfl rfl rfl rfl rfl rfl rfl ⟨rfl, rfl, rfl, rfl, rfl⟩ rfl rfl rfl rfl rfl (by kernel_rfl) Try.func8 (by kernel_rfl)
    (of_decide_eq_true (by kernel_rfl)) (by unfold Func.isWrapper; first | (rw [if_pos (by decide +kernel)]; kernel_rfl) | (rw [if_neg (by decide +kernel)]; exact ⟨rfl, rfl⟩))
    (fun os started H enc _ F => lifted os started H enc F)
#print axioms proved
end Go.Proofs.Ytkpehkadammppaa.tableWrites
