/- The document's order of rows, and whether a row's places are free. -/
import Derived.Test.YtkpehkadammppaaProg
import Derived.Test.YtkpehkadammppaaEnts
set_option linter.unusedVariables false
set_option linter.unusedSimpArgs false
namespace Go.Proofs.Ytkpehkadammppaa.OrdW
open Go Go.RowKit Go.Proofs.YtkpehkadammppaaFx Go.Proofs.Ytkpehkadammppaa.Free
theorem fa93_0 : FieldAt Try.prog 93 0 0 := field_at (sz := 0) Try.underlying93 rfl (by kernel_rfl) rfl
theorem info3 : (Try.prog.info? 3).map (fun i => (i.zero, i.size, i.bytes)) = some (some (.int .i64 0), 1, 8) := by kernel_rfl
theorem mixed : Try.prog.follows .mixedOrders = true := by kernel_rfl
theorem one3 : One Try.prog 3 := one_of Try.underlying3 rfl (by kernel_rfl)
theorem one91 : One Try.prog 91 := one_of Try.underlying91 rfl (by kernel_rfl)
theorem sz3 : ∀ W, (sizeOf 3).run Try.prog W = .ok 1 W := size_of (by kernel_rfl)
theorem sz91 : ∀ W, (sizeOf 91).run Try.prog W = .ok 1 W := size_of (by kernel_rfl)
theorem sz93 : ∀ W, (sizeOf 93).run Try.prog W = .ok 4 W := size_of (by kernel_rfl)
theorem zv3 : ∀ W, (zeroValue 3).run Try.prog W = .ok (.int .i64 0) W := zero_of (by kernel_rfl)

set_option maxRecDepth 100000 in
theorem rfree_calls {A B : Option Addr} {ca cb : Nat} {check : List Int} {row : List En} {b : Int} {w : World} (hr : Rd (kInt .i64) w A check) (hq : Rd fEn.kn w B row) (hm : check.length ≤ maxLen) (hm2 : row.length ≤ maxLen) (hb : 0 ≤ b ∧ b ≤ 1152921504606846976) (hk : ∀ k ∈ ats row, 0 ≤ k ∧ k ≤ 1152921504606846976) :
    Calls Try.prog 60 #[.slice A check.length ca, .slice B row.length cb, .int .i64 b] w fun e w' => ∃ v, e = .returned v ∧ v = .bool (freeB check (ats row) b) ∧ Holds w [] w' := by
  unfold maxLen at hm hm2
  have hal : (ats row).length = row.length := List.length_map ..
  refine calls_of Try.func60 rfl Try.ntmps60 rfl ?_
  have H := Holds.start w
  refine wc_seq ?_
  refine wc_region ?_
  refine wl_v rfl rfl rfl (v_assign rfl) ?_
  refine wl_nil ?_
  refine wc_seq ?_
  refine wc_seq ?_
  refine wc_region ?_
  refine wl_v rfl rfl rfl (v_assign rfl) ?_
  refine wl_nil ?_
  refine wc_block ?_
  refine wc_loop (σ := Nat) (fun s => [(0, .slice A check.length ca), (1, .slice B row.length cb), (2, .int .i64 b), (7, .int .i64 s)]) (fun s W => s ≤ row.length ∧ ((ats row).take s).all (fun k => !(decide (b + k < check.length) && decide (0 ≤ check.getD (b + k).toNat 0))) = true ∧ Holds w [] W) (fun s => row.length - s) 0 (sc rfl (sc rfl (sc rfl (sc rfl (sn _))))) ⟨Nat.zero_le _, rfl, H⟩ ?_
  rintro i W0 ⟨hi, ha, H⟩
  refine wc_seq ?_
  refine wc_seq ?_
  refine wc_region ?_
  refine wl_v rfl rfl rfl (v_move rfl) ?_
  refine wl_v rfl rfl rfl (v_move rfl) ?_
  refine wl_v rfl rfl rfl (v_len Try.underlying91 rfl) ?_
  refine wl_v rfl rfl rfl (v_lss rfl rfl) ?_
  refine wl_nil ?_
  refine wc_cond rfl (fun c0 => ?_) (fun c0 => ?_)
  · have c0p := of_decide_eq_true c0
    have hin : i < row.length := by omega
    have hina : i < (ats row).length := by rw [hal]; exact hin
    have hkk := hk ((ats row).getD i 0) (getD_mem hina)
    rw [ats_get] at hkk
    refine wc_skip ?_
    refine wc_seq ?_
    refine wc_block ?_
    refine wc_seq ?_
    refine wc_region ?_
    refine wl_v rfl rfl rfl (v_move rfl) ?_
    refine wl_v rfl rfl rfl (v_move rfl) ?_
    refine wl_v rfl rfl rfl (v_move rfl) ?_
    refine wl_v rfl rfl rfl (v_idx Try.underlying91 sz93 hq.ad rfl rfl (by omega) (by omega)) ?_
    refine wl_v rfl rfl rfl (v_fp fa93_0 rfl) ?_
    refine wl_v rfl rfl rfl (v_load one3 rfl (H.cell (hq.atN (i := i) (k := 0) enZ (by omega) rfl))) ?_
    refine wl_v rfl rfl rfl (v_addi rfl rfl (by omega)) ?_
    refine wl_v rfl rfl rfl (v_assign rfl) ?_
    refine wl_nil ?_
    refine wc_seq ?_
    refine wc_region ?_
    refine wl_v rfl rfl rfl (v_move rfl) ?_
    refine wl_v rfl rfl rfl (v_move rfl) ?_
    refine wl_v rfl rfl rfl (v_len Try.underlying39 rfl) ?_
    refine wl_v rfl rfl rfl (v_lss rfl rfl) ?_
    refine wl_v rfl rfl rfl (v_move rfl) ?_
    refine wl_guard rfl rfl rfl (fun g26 => ?_) (fun g26 => ?_)
    · have g26p := of_decide_eq_true g26
      refine wl_v rfl rfl rfl (v_move rfl) ?_
      refine wl_on' rfl rfl g26 ?_
      refine wl_v rfl rfl rfl (v_move rfl) ?_
      refine wl_on' rfl rfl g26 ?_
      refine wl_v rfl rfl rfl (v_idx Try.underlying39 sz3 hr.ad rfl rfl (by omega) (by omega)) ?_
      refine wl_on' rfl rfl g26 ?_
      refine wl_v rfl rfl rfl (v_load one3 rfl (H.cell (hr.at1 (by omega) (by omega)))) ?_
      refine wl_on' rfl rfl g26 ?_
      refine wl_v rfl rfl rfl (v_geq rfl rfl) ?_
      refine wl_v rfl rfl rfl (v_pick_t rfl g26 rfl) ?_
      refine wl_nil ?_
      refine wc_cond rfl (fun c1 => ?_) (fun c1 => ?_)
      · have c1p := of_decide_eq_true c1
        refine wc_seq ?_
        refine wc_region ?_
        refine wl_v rfl rfl rfl (v_assign rfl) ?_
        refine wl_nil ?_
        refine wc_ret ?_
        first
          | exact ⟨_, res1 rfl rfl, congrArg Value.bool (by unfold freeB; rw [take_all (by rw [hal]; exact c0p)] at ha; exact ha.symm), H⟩
          | exact ⟨_, res1 rfl rfl, congrArg Value.bool (by unfold freeB; symm; refine all_not 0 hina ?_; rw [ats_get]; simp only [Bool.not_eq_false', Bool.and_eq_true, decide_eq_true_eq]; omega), H⟩
      · have c1p := of_decide_eq_false c1
        refine wc_skip ?_
        refine wc_region ?_
        refine wl_v rfl rfl rfl (v_move rfl) ?_
        refine wl_v rfl rfl rfl (v_addi rfl rfl (by omega)) ?_
        refine wl_v rfl rfl rfl (v_assign rfl) ?_
        refine wl_nil ?_
        exact ⟨i + 1, (sc rfl (sc rfl (sc rfl (sc rfl (sn _))))), ⟨by omega, by rw [all_succ 0 hina, ha, ats_get]; simp only [Bool.true_and, Bool.not_eq_true', Bool.and_eq_false_iff, decide_eq_false_iff_not]; omega, H⟩, by omega⟩
    · have g26p := of_decide_eq_false g26
      refine wl_off rfl rfl g26 rfl ?_
      refine wl_off rfl rfl g26 rfl ?_
      refine wl_off rfl rfl g26 rfl ?_
      refine wl_off rfl rfl g26 rfl ?_
      refine wl_v rfl rfl rfl (v_pick_f rfl g26 rfl) ?_
      refine wl_nil ?_
      refine wc_cond_f rfl ?_
      refine wc_skip ?_
      refine wc_region ?_
      refine wl_v rfl rfl rfl (v_move rfl) ?_
      refine wl_v rfl rfl rfl (v_addi rfl rfl (by omega)) ?_
      refine wl_v rfl rfl rfl (v_assign rfl) ?_
      refine wl_nil ?_
      exact ⟨i + 1, (sc rfl (sc rfl (sc rfl (sc rfl (sn _))))), ⟨by omega, by rw [all_succ 0 hina, ha, ats_get]; simp only [Bool.true_and, Bool.not_eq_true', Bool.and_eq_false_iff, decide_eq_false_iff_not]; omega, H⟩, by omega⟩
  · have c0p := of_decide_eq_false c0
    refine wc_exit ?_
    refine wc_seq ?_
    refine wc_region ?_
    refine wl_v rfl rfl rfl (v_assign rfl) ?_
    refine wl_nil ?_
    refine wc_ret ?_
    first
      | exact ⟨_, res1 rfl rfl, congrArg Value.bool (by unfold freeB; rw [take_all (by rw [hal]; exact c0p)] at ha; exact ha.symm), H⟩
      | exact ⟨_, res1 rfl rfl, congrArg Value.bool (by unfold freeB; symm; refine all_not 0 hina ?_; rw [ats_get]; simp only [Bool.not_eq_false', Bool.and_eq_true, decide_eq_true_eq]; omega), H⟩

set_option maxRecDepth 100000 in
theorem order_calls {A : Option Addr} {ca : Nat} {rows : List (List En)} {w : World} (hR : Rd fEn.kn.sl w A rows) (hW : ∀ r ∈ rows, r.length ≤ 1099511627776) (hn : rows.length ≤ 1099511627776) :
    Calls Try.prog 59 #[.slice A rows.length ca] w fun e w' => ∃ v, e = .returned v ∧ ∃ A1 c1, v = .slice A1 (ordF (atss rows)).length c1 ∧ Holds w [Row (fInt .i64) 3 (.slice A1 (ordF (atss rows)).length c1) (ordF (atss rows))] w' := by
  refine calls_of Try.func59 rfl Try.ntmps59 rfl ?_
  have H := Holds.start w
  refine wc_seq ?_
  refine wc_region ?_
  refine wl_v rfl rfl rfl (v_assign rfl) ?_
  refine wl_nil ?_
  refine wc_seq ?_
  refine wc_region ?_
  refine wl_v rfl rfl rfl (v_assign rfl) ?_
  refine wl_nil ?_
  refine wc_seq ?_
  refine wc_seq ?_
  refine wc_region ?_
  refine wl_v rfl rfl rfl (v_assign rfl) ?_
  refine wl_nil ?_
  refine wc_block ?_
  refine wc_loop (σ := Nat × Option Addr × Nat) (fun s => [(0, .slice A rows.length ca), (3, .slice s.2.1 (ordN (lnR (atss rows)) s.1).length s.2.2), (4, .int .i64 s.1)]) (fun s W => s.1 ≤ rows.length ∧ Holds w [Row (fInt .i64) 3 (.slice s.2.1 (ordN (lnR (atss rows)) s.1).length s.2.2) (ordN (lnR (atss rows)) s.1)] W) (fun s => rows.length - s.1) (0, none, 0) (sc rfl (sc rfl (sc rfl (sn _)))) ⟨Nat.zero_le _, H.nilrow 3 1⟩ ?_
  rintro ⟨k, A3, c3⟩ W0 ⟨hk, H⟩
  dsimp only at hk H ⊢
  have hol := ordN_len (lnR (atss rows)) k
  refine wc_seq ?_
  refine wc_seq ?_
  refine wc_region ?_
  refine wl_v rfl rfl rfl (v_move rfl) ?_
  refine wl_v rfl rfl rfl (v_move rfl) ?_
  refine wl_v rfl rfl rfl (v_len Try.underlying90 rfl) ?_
  refine wl_v rfl rfl rfl (v_lss rfl rfl) ?_
  refine wl_nil ?_
  refine wc_cond rfl (fun c0 => ?_) (fun c0 => ?_)
  · have c0p := of_decide_eq_true c0
    refine wc_skip ?_
    refine wc_seq ?_
    refine wc_block ?_
    refine wc_seq ?_
    refine wc_region ?_
    refine wl_v rfl rfl rfl (v_assign rfl) ?_
    refine wl_nil ?_
    refine wc_seq ?_
    refine wc_block ?_
    refine wc_loop (σ := Nat) (fun s => [(0, .slice A rows.length ca), (3, .slice A3 (ordN (lnR (atss rows)) k).length c3), (4, .int .i64 k), (5, .int .i64 s)]) (fun s W => s ≤ (ordN (lnR (atss rows)) k).length ∧ (∀ q, q < s → (lnR (atss rows)) (k : Int) ≤ (lnR (atss rows)) ((ordN (lnR (atss rows)) k).getD q 0)) ∧ Holds w [Row (fInt .i64) 3 (.slice A3 (ordN (lnR (atss rows)) k).length c3) (ordN (lnR (atss rows)) k)] W) (fun s => (ordN (lnR (atss rows)) k).length - s) 0 (sc rfl (sc rfl (sc rfl (sc rfl (sn _))))) ⟨Nat.zero_le _, upto_zero, H⟩ ?_
    rintro i W1 ⟨hi, hle, H⟩
    have hcap := H.rcap (f := fInt .i64) (e := 3) (A := A3) (xs := (ordN (lnR (atss rows)) k)) (.here _ _ _)
    refine wc_seq ?_
    refine wc_seq ?_
    refine wc_still mixed (by kernel_rfl) ?_
    have Hd := H.drew
    refine ws_v rfl rfl rfl (v_move rfl) ?_
    refine ws_v rfl rfl rfl (v_move rfl) ?_
    refine ws_v rfl rfl rfl (v_len Try.underlying39 rfl) ?_
    refine ws_v rfl rfl rfl (v_lss rfl rfl) ?_
    refine ws_v rfl rfl rfl (v_move rfl) ?_
    refine ws_guard rfl rfl rfl (fun g17 => ?_) (fun g17 => ?_)
    · have g17p := of_decide_eq_true g17
      have hxm := ordN_mem (getD_mem (z := 0) (show i < (ordN (lnR (atss rows)) k).length by omega))
      have hw1 := hW _ (getD_mem (z := []) (show ((ordN (lnR (atss rows)) k).getD i 0).toNat < rows.length by omega))
      have hw2 := hW _ (getD_mem (z := []) (show k < rows.length by omega))
      refine ws_v rfl rfl rfl (v_move rfl) ?_
      refine ws_on' rfl rfl g17 ?_
      refine ws_v rfl rfl rfl (v_move rfl) ?_
      refine ws_on' rfl rfl g17 ?_
      refine ws_v rfl rfl rfl (v_move rfl) ?_
      refine ws_on' rfl rfl g17 ?_
      refine ws_v rfl rfl rfl (v_idx Try.underlying39 sz3 (Hd.rrd (f := fInt .i64) (e := 3) (A := A3) (xs := (ordN (lnR (atss rows)) k)) (by repeat constructor)).ad rfl rfl (by omega) (by omega)) ?_
      refine ws_on' rfl rfl g17 ?_
      refine ws_v rfl rfl rfl (v_load one3 rfl ((Hd.rrd (f := fInt .i64) (e := 3) (A := A3) (xs := (ordN (lnR (atss rows)) k)) (by repeat constructor)).at1N (i := i) (by omega))) ?_
      refine ws_on' rfl rfl g17 ?_
      refine ws_v rfl rfl rfl (v_idx Try.underlying90 sz91 hR.ad rfl rfl (by omega) (by omega)) ?_
      refine ws_on' rfl rfl g17 ?_
      obtain ⟨B24, cp24, hc24, hl24, hr24⟩ := hR.atSl (i := ((ordN (lnR (atss rows)) k).getD i 0)) (by omega) (by omega)
      refine ws_v rfl rfl rfl (v_load one91 rfl (Hd.cell (hc24))) ?_
      refine ws_on' rfl rfl g17 ?_
      refine ws_v rfl rfl rfl (v_len Try.underlying91 rfl) ?_
      refine ws_on' rfl rfl g17 ?_
      refine ws_v rfl rfl rfl (v_move rfl) ?_
      refine ws_on' rfl rfl g17 ?_
      refine ws_v rfl rfl rfl (v_move rfl) ?_
      refine ws_on' rfl rfl g17 ?_
      refine ws_v rfl rfl rfl (v_idx Try.underlying90 sz91 hR.ad rfl rfl (by omega) (by omega)) ?_
      refine ws_on' rfl rfl g17 ?_
      obtain ⟨B29, cp29, hc29, hl29, hr29⟩ := hR.atSlN (i := k) (by omega)
      refine ws_v rfl rfl rfl (v_load one91 rfl (Hd.cell (hc29))) ?_
      refine ws_on' rfl rfl g17 ?_
      refine ws_v rfl rfl rfl (v_len Try.underlying91 rfl) ?_
      refine ws_on' rfl rfl g17 ?_
      refine ws_v rfl rfl rfl (v_geq rfl rfl) ?_
      refine ws_v rfl rfl rfl (v_pick_t rfl g17 rfl) ?_
      refine ws_nil ?_
      refine wc_cond rfl (fun c1 => ?_) (fun c1 => ?_)
      · have c1p := of_decide_eq_true c1
        refine wc_skip ?_
        refine wc_block ?_
        refine wc_region ?_
        refine wl_v rfl rfl rfl (v_move rfl) ?_
        refine wl_v rfl rfl rfl (v_addi rfl rfl (by omega)) ?_
        refine wl_v rfl rfl rfl (v_assign rfl) ?_
        refine wl_nil ?_
        exact ⟨i + 1, (sc rfl (sc rfl (sc rfl (sc rfl (sn _))))), ⟨by omega, upto_succ hle (by rw [lnR_ats, lnR_ats, Int.toNat_natCast]; omega), Hd.pm (by repeat constructor)⟩, by omega⟩
      · have c1p := of_decide_eq_false c1
        have hin : ordN (lnR (atss rows)) (k + 1) = ((ordN (lnR (atss rows)) k).take i ++ [(k : Int)] ++ (ordN (lnR (atss rows)) k).drop i) := by
          first
            | exact insO_at _ i hi hle (.inr (by rw [lnR_ats, lnR_ats, Int.toNat_natCast]; omega))
            | exact insO_at _ i hi hle (.inl (by omega))
        refine wc_exit ?_
        refine wc_seq ?_
        refine wc_region ?_
        refine wl_v rfl rfl rfl (v_move rfl) ?_
        refine wl_v rfl rfl rfl (v_move rfl) ?_
        refine wl_v rfl rfl rfl (v_cutlo Try.underlying39 sz3 rfl rfl (by omega) (by omega)) ?_
        have Hn2 := Hd.nilrow 3 1
        have hrd := ((Hd.rrd (f := fInt .i64) (e := 3) (A := A3) (xs := (ordN (lnR (atss rows)) k)) (by repeat constructor))).cut (c := c3) (lo := i) hi hcap
        have hdl : ((ordN (lnR (atss rows)) k).drop i).length = (ordN (lnR (atss rows)) k).length - (i : Int).toNat := by rw [List.length_drop]; omega
        refine wl_appR (f := fInt .i64) (xs := []) (ys := (ordN (lnR (atss rows)) k).drop i) (L' := fun v' => Row (fInt .i64) 3 v' ([] ++ (ordN (lnR (atss rows)) k).drop i) :: [Row (fInt .i64) 3 (.slice A3 (ordN (lnR (atss rows)) k).length c3) (ordN (lnR (atss rows)) k)]) Hn2 (fun v' => .here _ _ _) rfl Try.underlying39 info3 rfl (by decide) rfl (by rw [hdl]; rfl) hrd (by rw [hdl]; simp only [List.length_nil]; omega) (by decide) ?_
        intro A38 c38 w2 H2 hs2
        rw [List.nil_append] at H2 ⊢
        refine wl_v rfl rfl rfl (v_assign rfl) ?_
        refine wl_nil ?_
        refine wc_region ?_
        refine wl_v rfl rfl rfl (v_move rfl) ?_
        refine wl_v rfl rfl rfl (v_move rfl) ?_
        refine wl_v rfl rfl rfl (v_cuthi Try.underlying39 sz3 rfl rfl (by omega) (by omega)) ?_
        have H3 := H2.rcut (f := fInt .i64) (A := A3) (c := c3) (xs := (ordN (lnR (atss rows)) k)) (lo := i) (L' := [Row (fInt .i64) 3 (.slice A38 ((ordN (lnR (atss rows)) k).drop i).length c38) ((ordN (lnR (atss rows)) k).drop i), Row (fInt .i64) 3 (.slice A3 i c3) ((ordN (lnR (atss rows)) k).take i)]) (by repeat constructor) hi
        refine wl_v rfl rfl rfl (v_move rfl) ?_
        refine wl_slit (v := .int .i64 0) (z := [.int .i64 0]) (cs := [.int .i64 (k : Int)]) (sz := 1) H3 rfl Try.underlying39 sz3 zv3 (by decide) (by decide) (by kernel_rfl) rfl (by repeat constructor) ?_
        intro b43 w4 hb43 H4 hs4
        refine wl_app1 (f := fInt .i64) (xs := (ordN (lnR (atss rows)) k).take i) (y' := (k : Int)) H4 (fun v' => (by repeat constructor)) (by repeat constructor) rfl Try.underlying39 info3 rfl (by decide) (by rw [Int.toNat_natCast]; rfl) rfl rfl (by rw [List.length_take]; omega) (by decide) ?_
        intro A44 c44 w5 H5 hs5
        refine wl_v rfl rfl rfl (v_move rfl) ?_
        refine wl_appR (f := fInt .i64) (xs := (ordN (lnR (atss rows)) k).take i ++ [(k : Int)]) (ys := (ordN (lnR (atss rows)) k).drop i) H5 (fun v' => (by repeat constructor)) rfl Try.underlying39 info3 rfl (by decide) rfl rfl (H5.rrd (f := fInt .i64) (e := 3) (A := A38) (xs := (ordN (lnR (atss rows)) k).drop i) (by repeat constructor)) (by simp only [List.length_append, List.length_take, List.length_drop, List.length_singleton]; omega) (by decide) ?_
        intro A46 c46 w6 H6 hs6
        refine wl_v rfl rfl rfl (v_assign rfl) ?_
        refine wl_nil ?_
        refine wc_region ?_
        refine wl_v rfl rfl rfl (v_move rfl) ?_
        refine wl_v rfl rfl rfl (v_addi rfl rfl (by omega)) ?_
        refine wl_v rfl rfl rfl (v_assign rfl) ?_
        refine wl_nil ?_
        exact ⟨(k + 1, A46, c46), by rw [hin]; exact (sc rfl (sc rfl (sc rfl (sn _)))), ⟨by dsimp only; omega, by rw [hin]; exact H6.pm (by repeat constructor)⟩, by dsimp only; omega⟩
    · have g17p := of_decide_eq_false g17
      have hin : ordN (lnR (atss rows)) (k + 1) = ((ordN (lnR (atss rows)) k).take i ++ [(k : Int)] ++ (ordN (lnR (atss rows)) k).drop i) := insO_at _ i hi hle (.inl (by omega))
      refine ws_off rfl rfl g17 rfl ?_
      refine ws_off rfl rfl g17 rfl ?_
      refine ws_off rfl rfl g17 rfl ?_
      refine ws_off rfl rfl g17 rfl ?_
      refine ws_off rfl rfl g17 rfl ?_
      refine ws_off rfl rfl g17 rfl ?_
      refine ws_off rfl rfl g17 rfl ?_
      refine ws_off rfl rfl g17 rfl ?_
      refine ws_off rfl rfl g17 rfl ?_
      refine ws_off rfl rfl g17 rfl ?_
      refine ws_off rfl rfl g17 rfl ?_
      refine ws_off rfl rfl g17 rfl ?_
      refine ws_off rfl rfl g17 rfl ?_
      refine ws_v rfl rfl rfl (v_pick_f rfl g17 rfl) ?_
      refine ws_nil ?_
      refine wc_cond_f rfl ?_
      refine wc_exit ?_
      refine wc_seq ?_
      refine wc_region ?_
      refine wl_v rfl rfl rfl (v_move rfl) ?_
      refine wl_v rfl rfl rfl (v_move rfl) ?_
      refine wl_v rfl rfl rfl (v_cutlo Try.underlying39 sz3 rfl rfl (by omega) (by omega)) ?_
      have Hn8 := Hd.nilrow 3 1
      have hrd := ((Hd.rrd (f := fInt .i64) (e := 3) (A := A3) (xs := (ordN (lnR (atss rows)) k)) (by repeat constructor))).cut (c := c3) (lo := i) hi hcap
      have hdl : ((ordN (lnR (atss rows)) k).drop i).length = (ordN (lnR (atss rows)) k).length - (i : Int).toNat := by rw [List.length_drop]; omega
      refine wl_appR (f := fInt .i64) (xs := []) (ys := (ordN (lnR (atss rows)) k).drop i) (L' := fun v' => Row (fInt .i64) 3 v' ([] ++ (ordN (lnR (atss rows)) k).drop i) :: [Row (fInt .i64) 3 (.slice A3 (ordN (lnR (atss rows)) k).length c3) (ordN (lnR (atss rows)) k)]) Hn8 (fun v' => .here _ _ _) rfl Try.underlying39 info3 rfl (by decide) rfl (by rw [hdl]; rfl) hrd (by rw [hdl]; simp only [List.length_nil]; omega) (by decide) ?_
      intro A38 c38 w8 H8 hs8
      rw [List.nil_append] at H8 ⊢
      refine wl_v rfl rfl rfl (v_assign rfl) ?_
      refine wl_nil ?_
      refine wc_region ?_
      refine wl_v rfl rfl rfl (v_move rfl) ?_
      refine wl_v rfl rfl rfl (v_move rfl) ?_
      refine wl_v rfl rfl rfl (v_cuthi Try.underlying39 sz3 rfl rfl (by omega) (by omega)) ?_
      have H9 := H8.rcut (f := fInt .i64) (A := A3) (c := c3) (xs := (ordN (lnR (atss rows)) k)) (lo := i) (L' := [Row (fInt .i64) 3 (.slice A38 ((ordN (lnR (atss rows)) k).drop i).length c38) ((ordN (lnR (atss rows)) k).drop i), Row (fInt .i64) 3 (.slice A3 i c3) ((ordN (lnR (atss rows)) k).take i)]) (by repeat constructor) hi
      refine wl_v rfl rfl rfl (v_move rfl) ?_
      refine wl_slit (v := .int .i64 0) (z := [.int .i64 0]) (cs := [.int .i64 (k : Int)]) (sz := 1) H9 rfl Try.underlying39 sz3 zv3 (by decide) (by decide) (by kernel_rfl) rfl (by repeat constructor) ?_
      intro b43 w10 hb43 H10 hs10
      refine wl_app1 (f := fInt .i64) (xs := (ordN (lnR (atss rows)) k).take i) (y' := (k : Int)) H10 (fun v' => (by repeat constructor)) (by repeat constructor) rfl Try.underlying39 info3 rfl (by decide) (by rw [Int.toNat_natCast]; rfl) rfl rfl (by rw [List.length_take]; omega) (by decide) ?_
      intro A44 c44 w11 H11 hs11
      refine wl_v rfl rfl rfl (v_move rfl) ?_
      refine wl_appR (f := fInt .i64) (xs := (ordN (lnR (atss rows)) k).take i ++ [(k : Int)]) (ys := (ordN (lnR (atss rows)) k).drop i) H11 (fun v' => (by repeat constructor)) rfl Try.underlying39 info3 rfl (by decide) rfl rfl (H11.rrd (f := fInt .i64) (e := 3) (A := A38) (xs := (ordN (lnR (atss rows)) k).drop i) (by repeat constructor)) (by simp only [List.length_append, List.length_take, List.length_drop, List.length_singleton]; omega) (by decide) ?_
      intro A46 c46 w12 H12 hs12
      refine wl_v rfl rfl rfl (v_assign rfl) ?_
      refine wl_nil ?_
      refine wc_region ?_
      refine wl_v rfl rfl rfl (v_move rfl) ?_
      refine wl_v rfl rfl rfl (v_addi rfl rfl (by omega)) ?_
      refine wl_v rfl rfl rfl (v_assign rfl) ?_
      refine wl_nil ?_
      exact ⟨(k + 1, A46, c46), by rw [hin]; exact (sc rfl (sc rfl (sc rfl (sn _)))), ⟨by dsimp only; omega, by rw [hin]; exact H12.pm (by repeat constructor)⟩, by dsimp only; omega⟩
  · have c0p := of_decide_eq_false c0
    obtain rfl : k = rows.length := by omega
    have hoe : ordN (lnR (atss rows)) rows.length = ordF (atss rows) := by unfold ordF; rw [show (atss rows).length = rows.length from List.length_map ..]
    refine wc_exit ?_
    refine wc_seq ?_
    refine wc_region ?_
    refine wl_v rfl rfl rfl (v_move rfl) ?_
    refine wl_v rfl rfl rfl (v_assign rfl) ?_
    refine wl_nil ?_
    refine wc_ret ?_
    rw [hoe] at H
    exact ⟨_, res1 rfl rfl, _, _, (by rw [hoe]), H⟩
end Go.Proofs.Ytkpehkadammppaa.OrdW
