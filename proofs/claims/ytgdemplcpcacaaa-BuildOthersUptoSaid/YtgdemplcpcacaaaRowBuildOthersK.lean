/- The row of BuildOthers, of bulk at most the bound. -/
import Derived.Test.YtgdemplcpcacaaaK16
import Derived.Test.YtgdemplcpcacaaaK14
set_option linter.unusedVariables false
namespace Go.Proofs.Ytgdemplcpcacaaa.buildOthers
open Go Go.ChangeShapes Go.WideShapes Go.ChangeAt Go.RowKit Go.Deep Go.Joins Go.Proofs.YtgdemplcpcacaaaFx
theorem own : ownKnob Try.prog.godebug = none := by kernel_rfl
theorem laidOut : laidOutB Try.prog = true := by kernel_rfl
theorem rInt : Rds Try.prog 3 (kInt .i64) (fun a n => (Lit.int .i64 a).wf = true ∧ 1 ≤ n) := rds_int Try.underlying3 (by kernel_rfl)
theorem rStr : Rds Try.prog 9 kStr (fun a n => a.size + 1 ≤ n) := rds_str Try.underlying9 (by kernel_rfl)
theorem rRow : Rds Try.prog 51 (kInt .i64).sl (fun xs n => xs.length + 1 ≤ n ∧ ∀ x ∈ xs, ∃ m, m ≤ n ∧ (Lit.int .i64 x).wf = true ∧ 1 ≤ m) := rds_sl Try.underlying51 (by kernel_rfl) rInt
theorem rStrs : Rds Try.prog 40 kStr.sl (fun xs n => xs.length + 1 ≤ n ∧ ∀ x ∈ xs, ∃ m, m ≤ n ∧ x.size + 1 ≤ m) := rds_sl Try.underlying40 (by kernel_rfl) rStr
theorem gT : GTypes Try.prog 3 9 69 67 51 73 where
  i := rInt
  z := rStr
  a := ⟨_, _, _, _, Try.underlying69, rfl, rfl, rfl, rfl⟩
  ca := by kernel_rfl
  s := Try.underlying67
  cs := by kernel_rfl
  r := rRow
  p := ⟨_, _, _, _, Try.underlying73, rfl, rfl, rfl, rfl⟩
  cp := by kernel_rfl
theorem rPc : Rds Try.prog 145 fMv.kn (fun a n => (I64 a.d ∧ I64 a.n) ∧ 1 ≤ n) := rds_mv Try.underlying145 Try.underlying3 (by kernel_rfl) (by kernel_rfl) rfl rfl
theorem gT2 : GTypes2 Try.prog 3 73 40 41 42 44 where
  k := rStrs
  c := rds_sl Try.underlying41 (by kernel_rfl) rPc
  q := Try.underlying42
  cq := by kernel_rfl
  g := ⟨_, _, _, _, _, Try.underlying44, rfl, rfl, rfl, rfl, rfl⟩
  cg := by kernel_rfl
theorem dT : DtTypes Try.prog 9 40 80 81 83 45 where
  z := rStr
  zs := rStrs
  c := ⟨_, _, Try.underlying80, rfl, rfl⟩
  cc := by kernel_rfl
  cs := Try.underlying81
  ccs := by kernel_rfl
  d := ⟨_, _, Try.underlying83, rfl, rfl⟩
  cd := by kernel_rfl
  ds := Try.underlying45
  cds := by kernel_rfl
theorem gvT : GvTypes Try.prog 44 45 40 47 := ⟨⟨_, _, _, Try.underlying47, rfl, rfl, rfl⟩, by kernel_rfl⟩
theorem dvT : DvTypes Try.prog 3 50 48 := ⟨rInt, ⟨_, _, _, Try.underlying50, rfl, rfl, rfl⟩, by kernel_rfl, Try.underlying48, by kernel_rfl⟩
theorem teT : TeTypes Try.prog 50 51 53 := ⟨⟨_, _, Try.underlying53, rfl, rfl⟩, by kernel_rfl⟩
/-- An action, and a number. -/
theorem rd_ot {H : Type} {enc : TypeId × Value → H} {w : World} {base : Nat} {spare : Nat → Bool} {held : Bool} {fuel : Nat} {cs : List Value} {x : DataW H × List MemPlace} (h : DataW.trod enc Try.prog w base spare held fuel 71 cs = some x) (hN : Rows.uptoBulk x.1 ≤ 1048576) :
    ∃ (p : Int) (o : Ac) (C : Option Addr) (kc : Nat), cs = [.int .i64 p, .int .i64 o.x.kind, .int .i64 o.x.at_, .string o.x.name, .slice C o.kids.length kc] ∧ Rd (kTr fAc) w C o.kids ∧ o.cnt ≤ 1048576 ∧ o.kids.length ≤ kc ∧ I64 p := by
  obtain ⟨f0, f1, hu, h0, h1⟩ : ∃ f0 f1 : Field, Try.prog.underlying 71 = some (.struct #[f0, f1]) ∧ (f0.type, f0.offset) = (3, 0) ∧ (f1.type, f1.offset) = (69, 1) := ⟨_, _, Try.underlying71, rfl, rfl⟩
  simp only [Prod.mk.injEq] at h0 h1
  obtain ⟨xs, n, hb, hl, hlen, hf⟩ := fields_of hu h
  rw [show Try.prog.cellsOf 71 = 5 by kernel_rfl] at hl
  obtain ⟨c0, c1, c2, c3, c4, rfl⟩ := five_len hl
  obtain ⟨y0, i0, e0⟩ := hf 0 f0 rfl
  obtain ⟨y1, i1, e1⟩ := hf 1 f1 rfl
  have s0 : Try.prog.cellsOf 3 = 1 := rInt.sz
  rw [h0.1, h0.2, s0] at e0
  rw [h1.1, h1.2, gT.ca] at e1
  have p1 := part_le i1
  obtain ⟨p, k0, b0, _⟩ := rInt.rd e0
  obtain ⟨o, k1, b1⟩ := (rdsN_tr gT (Rows.uptoBulk y1.1)).rd e1 (Nat.le_refl _)
  obtain ⟨C, kc, hC, hCl, hCr⟩ := Tr.K.open k1
  have g0 : [c0] = [Value.int .i64 p] := k0
  have g1 : [c1, c2, c3, c4] = [Value.int .i64 o.x.kind, .int .i64 o.x.at_, .string o.x.name, .slice C o.kids.length kc] := hC
  simp only [List.cons.injEq, and_true] at g0 g1
  obtain ⟨q1, q2, q3, q4⟩ := g1
  subst g0 q1 q2 q3 q4
  exact ⟨p, o, C, kc, rfl, hCr, by omega, hCl, i64_wf b0⟩
set_option maxRecDepth 100000 in
theorem contract (H : Type) (enc : TypeId × Value → H) (W : World) (base : Nat) (args : Array Value) (ds gs : List (DataW H)) (before : List MemPlace)
    (hval : ∀ (j : Nat) t v, Try.f7.params[j]? = some t → args[j]? = some v → Value.okWide Try.prog W .any base t v)
    (hW : DataW.Whole enc Try.prog Try.f7.params.toList Rows.buildOthersSpec.vars false W args.toList ds gs before) (hk : Rows.uptoSmall H (ds ++ gs) = true) :
    Calls Try.prog 7 args W fun e W' => ∃ v, e = .returned v ∧ Rows.buildOthersSpec.post enc Try.prog Try.f7 false true false false W args v W' := by
  have hW' := hW
  obtain ⟨p, q, hA0, hV, rfl, hfz, hnd⟩ := hW
  have hA : DataW.TrodAll enc Try.prog W 0 (fun _ => true) true Try.f7.params.toList args.toList ds p := hA0
  rw [Try.params7] at hA hval
  obtain ⟨v0, vs0, d0, ds0, p0, q0, hargs, rfl, rfl, h0, r0⟩ := trodAll_cons hA
  obtain ⟨v1, vs1, d1, ds1, p1, q1, rfl, rfl, rfl, h1, r1⟩ := trodAll_cons r0
  obtain ⟨v2, vs2, d2, ds2, p2, q2, rfl, rfl, rfl, h2, r2⟩ := trodAll_cons r1
  obtain ⟨rfl, rfl, rfl⟩ := trodAll_nil r2
  obtain rfl : args = #[v0, v1, v2] := by cases args; simp_all
  obtain ⟨rfl, rfl⟩ := trodVars_none hV
  have k0 := h0
  have lt0 : ∀ x ∈ p0, x.block < W.heap.size := by obtain ⟨m, hm⟩ := k0; exact DataW.trod_lt m _ _ _ hm
  have k1 := h1
  have lt1 : ∀ x ∈ p1, x.block < W.heap.size := by obtain ⟨m, hm⟩ := k1; exact DataW.trod_lt m _ _ _ hm
  have k2 := h2
  have lt2 : ∀ x ∈ p2, x.block < W.heap.size := by obtain ⟨m, hm⟩ := k2; exact DataW.trod_lt m _ _ _ hm
  obtain ⟨cs3, rfl, hcs3⟩ := okWide_struct Try.underlying71 (hval 2 71 v2 rfl rfl)
  obtain ⟨cs, rfl, hcs⟩ := okWide_struct Try.underlying47 (hval 0 47 v0 rfl rfl)
  obtain ⟨cs2, rfl, hcs2⟩ := okWide_struct Try.underlying53 (hval 1 53 v1 rfl rfl)
  have hb : Rows.uptoBulkAll ([d0, d1, d2] ++ []) ≤ 1048576 := of_decide_eq_true hk
  simp only [List.append_nil, Rows.uptoBulkAll] at hb
  obtain ⟨fuel, hf⟩ := h0
  obtain ⟨fuel1, hf1⟩ := h1
  obtain ⟨fuel2, hf2⟩ := h2
  obtain ⟨g, a, hcg, hr, hg⟩ := rd_gv gT gT2 dT gvT hf (show Rows.uptoBulk d0 ≤ 1048576 by omega)
  obtain ⟨d, row, B, A, k, c, hct, hdr, hrr, hcn, hrl, _⟩ := rd_te dvT rRow teT hf1 (show Rows.uptoBulk d1 ≤ 1048576 by omega)
  obtain ⟨p, o, C, kc, hco, hor, hoc, hol, hoi⟩ := rd_ot hf2 (show Rows.uptoBulk d2 ≤ 1048576 by omega)
  obtain ⟨l3⟩ := cs3
  obtain ⟨l⟩ := cs
  obtain ⟨l2⟩ := cs2
  change l = _ at hcg
  change l2 = _ at hct
  change l3 = _ at hco
  subst hcg hct hco
  clear hA0
  refine (BOthers.others_calls hr hg hdr hrr hcn hrl hoi hor hoc hol).mono fun e W' ⟨v, he, hv, hH⟩ => ?_
  subst he hv
  have bel := hH.old
  exact ⟨_, rfl, _, _, _, [], _, [], hW', trodAll_mk1 (shut_bool Try.underlying4 _), (trodAll_cons_mk (Below.trod laidOut (by kernel_rfl) (of_decide_eq_true (by kernel_rfl)) k0 bel lt0) (trodAll_cons_mk (Below.trod laidOut (by kernel_rfl) (of_decide_eq_true (by kernel_rfl)) k1 bel lt1) (trodAll_cons_mk (Below.trod laidOut (by kernel_rfl) (of_decide_eq_true (by kernel_rfl)) k2 bel lt2) trodAll_mk0))), rfl, bel.frame _, fun h => by cases h⟩
set_option maxRecDepth 100000 in
theorem lifted (os : Os) (started : os.Started) (H : Type) (enc : TypeId × Value → H) (F : Stop.Interp) :
    ReturnsInHanded {} Try.checked os 7 .any ((Rows.OpenSpec.upto Rows.buildOthersSpec).pre6 enc Try.prog Try.f7 Rows.buildOthersUptoRow.domain false) (((Rows.OpenSpec.upto Rows.buildOthersSpec).at F).post enc Try.prog Try.f7 false true false false) := by
  refine returnsInHanded_of_cond (C := Try.checked) (s := Rows.OpenSpec.upto Rows.buildOthersSpec) (k := Rows.uptoSmall) rfl own started (by kernel_rfl) Try.func7
    (OpenSpec.witness (enc := enc) (C := Try.checked) (s := Rows.OpenSpec.upto Rows.buildOthersSpec) (k := Rows.uptoSmall) rfl false ⟨#[], #[.agg #[.slice none 0 0, .slice none 0 0, .slice none 0 0, .slice none 0 0, .int .i64 0, .slice none 0 0, .slice none 0 0], .agg #[.int .i64 0, .int .i64 0, .slice none 0 0, .slice none 0 0], .agg #[.int .i64 0, .int .i64 0, .int .i64 0, .string ⟨#[]⟩, .slice none 0 0]], []⟩ 8 (by kernel_rfl) (by kernel_rfl) (by kernel_rfl)
      (x := ([.agg [.agg [.nil, .nil, .nil, .nil, .lit (.int .i64 0)], .nil, .nil], .agg [.agg [.lit (.int .i64 0), .lit (.int .i64 0), .nil], .nil], .agg [.lit (.int .i64 0), .agg [.lit (.int .i64 0), .lit (.int .i64 0), .lit (.string []), .nil]]], [], [])) (by kernel_rfl) rfl (by kernel_rfl)) ?_
  intro W base args ds gs before hval hW _ hk _
  exact contract H enc W base args ds gs before hval hW hk
theorem proved : Rows.BuildOthersUptoSaid :=
  OpenClaim.holds_of_cond 7 Try.f7 rfl rfl rfl rfl rfl rfl rfl ⟨rfl, rfl, rfl, rfl, rfl⟩ rfl rfl rfl rfl rfl (by kernel_rfl) Try.func7 (by kernel_rfl)
    (of_decide_eq_true (by kernel_rfl)) (by unfold Func.isWrapper; first | (rw [if_pos (by decide +kernel)]; kernel_rfl) | (rw [if_neg (by decide +kernel)]; exact ⟨rfl, rfl⟩))
    (fun os started H enc _ F => lifted os started H enc F)
#print axioms proved
end Go.Proofs.Ytgdemplcpcacaaa.buildOthers
