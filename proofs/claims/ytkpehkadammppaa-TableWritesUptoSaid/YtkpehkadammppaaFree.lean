/- What table.free tells. -/
import Derived.Test.YtkpehkadammppaaProg
import Derived.Test.YtkpehkadammppaaLst
set_option linter.unusedVariables false
set_option linter.unusedSimpArgs false
namespace Go.Proofs.Ytkpehkadammppaa.Free
open Go Go.RowKit Go.Proofs.YtkpehkadammppaaFx 
theorem one3 : One Try.prog 3 := one_of Try.underlying3 rfl (by kernel_rfl)
theorem sz3 : ∀ W, (sizeOf 3).run Try.prog W = .ok 1 W := size_of (by kernel_rfl)

def freeB (check row : List Int) (b : Int) : Bool := row.all fun k => !(decide (b + k < check.length) && decide (0 ≤ check.getD (b + k).toNat 0))

set_option maxRecDepth 100000 in
theorem free_calls {A B : Option Addr} {ca cb : Nat} {check row : List Int} {b : Int} {w : World} (hr : Rd (kInt .i64) w A check) (hq : Rd (kInt .i64) w B row) (hm : check.length ≤ maxLen) (hm2 : row.length ≤ maxLen) (hb : 0 ≤ b ∧ b ≤ 1152921504606846976) (hk : ∀ k ∈ row, 0 ≤ k ∧ k ≤ 1152921504606846976) :
    Calls Try.prog 58 #[.slice A check.length ca, .slice B row.length cb, .int .i64 b] w fun e w' => ∃ v, e = .returned v ∧ v = .bool (freeB check row b) ∧ Holds w [] w' := by
  unfold maxLen at hm hm2
  refine calls_of Try.func58 rfl Try.ntmps58 rfl ?_
  have H := Holds.start w
  refine wc_seq ?_
  refine wc_region ?_
  refine wl_v rfl rfl rfl (v_assign rfl) ?_
  refine wl_nil ?_
  refine wc_seq ?_
  refine wc_seq ?_
  refine wc_region ?_
  refine wl_v rfl rfl rfl (v_move rfl) ?_
  refine wl_v rfl rfl rfl (v_len Try.underlying39 rfl) ?_
  refine wl_v rfl rfl rfl (v_move rfl) ?_
  refine wl_nil ?_
  refine wc_block ?_
  refine wc_loop (σ := Nat) (fun s => [(0, .slice A check.length ca), (2, .int .i64 b), (9, .slice B row.length cb), (10, .int .i64 row.length), (11, .int .i64 s)]) (fun s W => s ≤ row.length ∧ (row.take s).all (fun k => !(decide (b + k < check.length) && decide (0 ≤ check.getD (b + k).toNat 0))) = true ∧ Holds w [] W) (fun s => row.length - s) 0 (sc rfl (sc rfl (sc rfl (sc rfl (sc rfl (sn _)))))) ⟨Nat.zero_le _, rfl, H⟩ ?_
  rintro i W0 ⟨hi, ha, H⟩
  refine wc_seq ?_
  refine wc_region ?_
  refine wl_v rfl rfl rfl (v_lss rfl rfl) ?_
  refine wl_nil ?_
  refine wc_seq ?_
  refine wc_cond rfl (fun c0 => ?_) (fun c0 => ?_)
  · have c0p := of_decide_eq_true c0
    have hin : i < row.length := by omega
    have hkk := hk (row.getD (i : Int).toNat 0) (getD_mem (by omega))
    refine wc_skip ?_
    refine wc_seq ?_
    refine wc_block ?_
    refine wc_seq ?_
    refine wc_region ?_
    refine wl_v rfl rfl rfl (v_idx Try.underlying39 sz3 hq.ad rfl rfl (by omega) (by omega)) ?_
    refine wl_v rfl rfl rfl (v_load one3 rfl (H.cell (hq.at1 (by omega) (by omega)))) ?_
    refine wl_v rfl rfl rfl (v_assign rfl) ?_
    refine wl_nil ?_
    refine wc_seq ?_
    refine wc_region ?_
    refine wl_v rfl rfl rfl (v_move rfl) ?_
    refine wl_v rfl rfl rfl (v_move rfl) ?_
    refine wl_v rfl rfl rfl (v_addi rfl rfl (by omega)) ?_
    refine wl_v rfl rfl rfl (v_move rfl) ?_
    refine wl_v rfl rfl rfl (v_len Try.underlying39 rfl) ?_
    refine wl_v rfl rfl rfl (v_lss rfl rfl) ?_
    refine wl_v rfl rfl rfl (v_move rfl) ?_
    refine wl_guard rfl rfl rfl (fun g21 => ?_) (fun g21 => ?_)
    · have g21p := of_decide_eq_true g21
      refine wl_v rfl rfl rfl (v_move rfl) ?_
      refine wl_on' rfl rfl g21 ?_
      refine wl_v rfl rfl rfl (v_move rfl) ?_
      refine wl_on' rfl rfl g21 ?_
      refine wl_v rfl rfl rfl (v_move rfl) ?_
      refine wl_on' rfl rfl g21 ?_
      refine wl_v rfl rfl rfl (v_addi rfl rfl (by omega)) ?_
      refine wl_on' rfl rfl g21 ?_
      refine wl_v rfl rfl rfl (v_idx Try.underlying39 sz3 hr.ad rfl rfl (by omega) (by omega)) ?_
      refine wl_on' rfl rfl g21 ?_
      refine wl_v rfl rfl rfl (v_load one3 rfl (H.cell (hr.at1 (by omega) (by omega)))) ?_
      refine wl_on' rfl rfl g21 ?_
      refine wl_v rfl rfl rfl (v_geq rfl rfl) ?_
      refine wl_v rfl rfl rfl (v_pick_t rfl g21 rfl) ?_
      refine wl_nil ?_
      refine wc_cond rfl (fun c1 => ?_) (fun c1 => ?_)
      · have c1p := of_decide_eq_true c1
        refine wc_seq ?_
        refine wc_region ?_
        refine wl_v rfl rfl rfl (v_assign rfl) ?_
        refine wl_nil ?_
        refine wc_ret ?_
        first
          | exact ⟨_, res1 rfl rfl, congrArg Value.bool (by unfold freeB; rw [take_all c0p] at ha; exact ha.symm), H⟩
          | exact ⟨_, res1 rfl rfl, congrArg Value.bool (by unfold freeB; symm; refine all_not 0 hin ?_; rw [← getD_nat]; simp only [Bool.not_eq_false', Bool.and_eq_true, decide_eq_true_eq]; omega), H⟩
      · have c1p := of_decide_eq_false c1
        refine wc_skip ?_
        refine wc_region ?_
        refine wl_v rfl rfl rfl (v_addi rfl rfl (by omega)) ?_
        refine wl_v rfl rfl rfl (v_move rfl) ?_
        refine wl_nil ?_
        exact ⟨i + 1, (sc rfl (sc rfl (sc rfl (sc rfl (sc rfl (sn _)))))), ⟨by omega, by rw [all_succ 0 hin, ha, ← getD_nat]; simp only [Bool.true_and, Bool.not_eq_true', Bool.and_eq_false_iff, decide_eq_false_iff_not]; omega, H⟩, by omega⟩
    · have g21p := of_decide_eq_false g21
      refine wl_off rfl rfl g21 rfl ?_
      refine wl_off rfl rfl g21 rfl ?_
      refine wl_off rfl rfl g21 rfl ?_
      refine wl_off rfl rfl g21 rfl ?_
      refine wl_off rfl rfl g21 rfl ?_
      refine wl_off rfl rfl g21 rfl ?_
      refine wl_v rfl rfl rfl (v_pick_f rfl g21 rfl) ?_
      refine wl_nil ?_
      refine wc_cond_f rfl ?_
      refine wc_skip ?_
      refine wc_region ?_
      refine wl_v rfl rfl rfl (v_addi rfl rfl (by omega)) ?_
      refine wl_v rfl rfl rfl (v_move rfl) ?_
      refine wl_nil ?_
      exact ⟨i + 1, (sc rfl (sc rfl (sc rfl (sc rfl (sc rfl (sn _)))))), ⟨by omega, by rw [all_succ 0 hin, ha, ← getD_nat]; simp only [Bool.true_and, Bool.not_eq_true', Bool.and_eq_false_iff, decide_eq_false_iff_not]; omega, H⟩, by omega⟩
  · have c0p := of_decide_eq_false c0
    refine wc_exit ?_
    refine wc_seq ?_
    refine wc_region ?_
    refine wl_v rfl rfl rfl (v_assign rfl) ?_
    refine wl_nil ?_
    refine wc_ret ?_
    first
      | exact ⟨_, res1 rfl rfl, congrArg Value.bool (by unfold freeB; rw [take_all c0p] at ha; exact ha.symm), H⟩
      | exact ⟨_, res1 rfl rfl, congrArg Value.bool (by unfold freeB; symm; refine all_not 0 hin ?_; rw [← getD_nat]; simp only [Bool.not_eq_false', Bool.and_eq_true, decide_eq_true_eq]; omega), H⟩
end Go.Proofs.Ytkpehkadammppaa.Free
