/- The row of TableOwn, of bulk at most the bound. -/
import Derived.Test.YtkpehkadammppaaTOwn
import Derived.Test.YtkpehkadammppaaIn
set_option linter.unusedVariables false
namespace Go.Proofs.Ytkpehkadammppaa.tableOwn
open Go Go.ChangeShapes Go.WideShapes Go.ChangeAt Go.RowKit Go.Deep Go.Joins Go.Proofs.YtkpehkadammppaaFx
theorem own : ownKnob Try.prog.godebug = none := by kernel_rfl
theorem laidOut : laidOutB Try.prog = true := by kernel_rfl
theorem rInt : Rds Try.prog 3 (kInt .i64) (fun a n => (Lit.int .i64 a).wf = true ∧ 1 ≤ n) := rds_int Try.underlying3 (by kernel_rfl)
theorem rMv : Rds Try.prog 48 fMv.kn (fun a n => (I64 a.d ∧ I64 a.n) ∧ 1 ≤ n) := rds_mv Try.underlying48 Try.underlying3 (by kernel_rfl) (by kernel_rfl) rfl rfl
theorem rTb : Rds Try.prog 25 kTb (fun a n => ∃ n0 n1, n0 + n1 ≤ n ∧ (a.mv.length + 1 ≤ n0 ∧ ∀ x ∈ a.mv, ∃ m, m ≤ n0 ∧ BMv x m) ∧ (a.go.length + 1 ≤ n1 ∧ ∀ x ∈ a.go, ∃ m, m ≤ n1 ∧ BInt x m)) :=
  rds_tb Try.underlying25 (by kernel_rfl) rfl rfl (rds_sl Try.underlying22 (by kernel_rfl) (rds_sl Try.underlying38 (by kernel_rfl) rMv)) (rds_sl Try.underlying23 (by kernel_rfl) (rds_sl Try.underlying39 (by kernel_rfl) rInt))
theorem tb_small {a : Tb} {n0 n1 : Nat} (h0 : a.mv.length + 1 ≤ n0 ∧ ∀ x ∈ a.mv, ∃ m, m ≤ n0 ∧ BMv x m) (h1 : a.go.length + 1 ≤ n1 ∧ ∀ x ∈ a.go, ∃ m, m ≤ n1 ∧ BInt x m) (hn : n0 + n1 ≤ 1048576) : TPacks.Small a :=
  ⟨tb_ok h0 h1 hn, fun r hr => by
    obtain ⟨m, hm, h2, _⟩ := h0.2 r hr
    omega, fun r hr => by
    obtain ⟨m, hm, h2, _⟩ := h1.2 r hr
    omega⟩
theorem five_len {cs : List Value} (h : cs.length = 5) : ∃ a b c d e, cs = [a, b, c, d, e] := by
  match cs, h with
  | [a, b, c, d, e], _ => exact ⟨a, b, c, d, e, rfl⟩
theorem given {H : Type} {enc : TypeId × Value → H} {w : World} {base : Nat} {spare : Nat → Bool} {held : Bool} {fuel : Nat} {cs : List Value} {x : DataW H × List MemPlace} (h : DataW.trod enc Try.prog w base spare held fuel 27 cs = some x) (hb : Rows.uptoBulk x.1 ≤ 1048576) :
    ∃ (t : Tb) (A B : Option Addr) (ca cb : Nat) (k r p : Int), cs = [.slice A t.mv.length ca, .slice B t.go.length cb, .int .i64 k, .int .i64 r, .int .i64 p] ∧ t.rd w A B ∧ TPacks.Small t ∧ I64 k ∧ I64 r ∧ I64 p := by
  obtain ⟨y0, y1, y2, y3, n, rfl, hl, e0, e1, e2, e3⟩ := trod_struct4 Try.underlying27 h
  have c27 : Try.prog.cellsOf 27 = 5 := by kernel_rfl
  have c25 : Try.prog.cellsOf 25 = 2 := by kernel_rfl
  have c3 : Try.prog.cellsOf 3 = 1 := by kernel_rfl
  rw [c27] at hl
  obtain ⟨a0, a1, a2, a3, a4, rfl⟩ := five_len hl
  · simp only [c25] at e0
    simp only [c3] at e1 e2 e3
    obtain ⟨t, ⟨A, B, ca, cb, ht, hr⟩, n0, n1, hn, h0, h1⟩ := rTb.rd e0
    obtain ⟨k, hk, _, wk⟩ := DataW.trod_int Try.underlying3 e1
    obtain ⟨r, hr', _, wr⟩ := DataW.trod_int Try.underlying3 e2
    obtain ⟨p, hp, _, wp⟩ := DataW.trod_int Try.underlying3 e3
    simp at ht hk hr' hp
    obtain ⟨rfl, rfl⟩ := ht
    subst hk hr' hp
    simp only [Rows.uptoBulk, Rows.uptoBulkAll] at hb
    exact ⟨t, A, B, ca, cb, k, r, p, rfl, hr, tb_small h0 h1 (by omega), i64_wf wk, i64_wf wr, i64_wf wp⟩
set_option maxRecDepth 100000 in
theorem contract (H : Type) (enc : TypeId × Value → H) (W : World) (base : Nat) (args : Array Value) (ds gs : List (DataW H)) (before : List MemPlace)
    (hval : ∀ (j : Nat) t v, Try.f5.params[j]? = some t → args[j]? = some v → Value.okWide Try.prog W .any base t v)
    (hW : DataW.Whole enc Try.prog Try.f5.params.toList Rows.tableOwnSpec.vars false W args.toList ds gs before) (hk : Rows.uptoSmall H (ds ++ gs) = true) :
    Calls Try.prog 5 args W fun e W' => ∃ v, e = .returned v ∧ Rows.tableOwnSpec.post enc Try.prog Try.f5 false true false false W args v W' := by
  have hW' := hW
  obtain ⟨p, q, hA0, hV, rfl, hfz, hnd⟩ := hW
  have hA : DataW.TrodAll enc Try.prog W 0 (fun _ => true) true Try.f5.params.toList args.toList ds p := hA0
  rw [Try.params5] at hA hval
  obtain ⟨v0, vs0, d0, ds0, p0, q0, hargs, rfl, rfl, h0, r0⟩ := trodAll_cons hA
  obtain ⟨rfl, rfl, rfl⟩ := trodAll_nil r0
  obtain rfl : args = #[v0] := by cases args; simp_all
  obtain ⟨rfl, rfl⟩ := trodVars_none hV
  have k0 := h0
  have lt0 : ∀ x ∈ p0, x.block < W.heap.size := by obtain ⟨m, hm⟩ := k0; exact DataW.trod_lt m _ _ _ hm
  obtain ⟨cs, rfl, hcs⟩ := okWide_struct Try.underlying27 (hval 0 27 v0 rfl rfl)
  have hb : Rows.uptoBulkAll ([d0] ++ []) ≤ 1048576 := of_decide_eq_true hk
  simp only [List.append_nil, Rows.uptoBulkAll] at hb
  obtain ⟨fuel, hf⟩ := h0
  obtain ⟨t, A, B, ca, cb, k, r, p', hcs2, hr, hok, ik, ir, ip⟩ := given hf (show Rows.uptoBulk d0 ≤ 1048576 by omega)
  have e : (Value.agg cs).cells = cs := rfl
  rw [e] at hcs2
  obtain ⟨l⟩ := cs
  change l = _ at hcs2
  subst hcs2
  clear hA0
  refine (TOwn.tableOwn_calls hr hok ik ir ip).mono fun e W' ⟨v, he, hv, hH⟩ => ?_
  subst he hv
  have bel := hH.old
  exact ⟨_, rfl, _, _, _, [], _, [], hW', trodAll_mk1 (shut_bool Try.underlying4 _), (trodAll_cons_mk (Below.trod laidOut (by kernel_rfl) (of_decide_eq_true (by kernel_rfl)) k0 bel lt0) trodAll_mk0), rfl, bel.frame _, fun h => by cases h⟩
set_option maxRecDepth 100000 in
theorem lifted (os : Os) (started : os.Started) (H : Type) (enc : TypeId × Value → H) (F : Stop.Interp) :
    ReturnsInHanded {} Try.checked os 5 .any ((Rows.OpenSpec.upto Rows.tableOwnSpec).pre6 enc Try.prog Try.f5 Rows.tableOwnUptoRow.domain false) (((Rows.OpenSpec.upto Rows.tableOwnSpec).at F).post enc Try.prog Try.f5 false true false false) := by
  refine returnsInHanded_of_cond (C := Try.checked) (s := Rows.OpenSpec.upto Rows.tableOwnSpec) (k := Rows.uptoSmall) rfl own started (by kernel_rfl) Try.func5
    (OpenSpec.witness (enc := enc) (C := Try.checked) (s := Rows.OpenSpec.upto Rows.tableOwnSpec) (k := Rows.uptoSmall) rfl false ⟨#[], #[.agg #[.slice none 0 0, .slice none 0 0, .int .i64 0, .int .i64 0, .int .i64 0]], []⟩ 8 (by kernel_rfl) (by kernel_rfl) (by kernel_rfl)
      (x := ([.agg [.agg [.nil, .nil], .lit (.int .i64 0), .lit (.int .i64 0), .lit (.int .i64 0)]], [], [])) (by kernel_rfl) rfl (by kernel_rfl)) ?_
  intro W base args ds gs before hval hW _ hk _
  exact contract H enc W base args ds gs before hval hW hk
theorem proved : Rows.TableOwnUptoSaid :=
  OpenClaim.holds_of_cond 5 Try.f5 rfl rfl rfl rfl rfl rfl rfl ⟨rfl, rfl, rfl, rfl, rfl⟩ rfl rfl rfl rfl rfl (by kernel_rfl) Try.func5 (by kernel_rfl)
    (of_decide_eq_true (by kernel_rfl)) (by unfold Func.isWrapper; first | (rw [if_pos (by decide +kernel)]; kernel_rfl) | (rw [if_neg (by decide +kernel)]; exact ⟨rfl, rfl⟩))
    (fun os started H enc _ F => lifted os started H enc F)
#print axioms proved
end Go.Proofs.Ytkpehkadammppaa.tableOwn
