/- What table.usual tells: a row's default. -/
import Derived.Test.YtkpehkadammppaaProg
import Derived.Test.YtkpehkadammppaaUsual
set_option linter.unusedVariables false
set_option linter.unusedSimpArgs false
namespace Go.Proofs.Ytkpehkadammppaa.UsualW
open Go Go.RowKit Go.Proofs.YtkpehkadammppaaFx 
theorem agg48 : Agg Try.prog 48 2 := agg_of Try.underlying48 (by kernel_rfl)
theorem ba48 : BuildAt Try.prog 48 [.int .i64 0, .int .i64 0] [(0, 1), (1, 1)] := build_at Try.underlying48 (by kernel_rfl) (by kernel_rfl)
theorem fa48_0 : FieldAt Try.prog 48 0 0 := field_at (sz := 0) Try.underlying48 rfl (by kernel_rfl) rfl
theorem fa48_1 : FieldAt Try.prog 48 1 1 := field_at (sz := 0) Try.underlying48 rfl (by kernel_rfl) rfl
theorem one3 : One Try.prog 3 := one_of Try.underlying3 rfl (by kernel_rfl)
theorem sz48 : ∀ W, (sizeOf 48).run Try.prog W = .ok 2 W := size_of (by kernel_rfl)
theorem zv3 : ∀ W, (zeroValue 3).run Try.prog W = .ok (.int .i64 0) W := zero_of (by kernel_rfl)
theorem zv48 : ∀ W, (zeroValue 48).run Try.prog W = .ok (.agg #[.int .i64 0, .int .i64 0]) W := zero_of (by kernel_rfl)

abbrev KI : KeyK Try.prog 3 Int := keyInt (k := .i64) Try.underlying3

set_option maxRecDepth 100000 in
theorem usual_calls {A : Option Addr} {c : Nat} {row : List Mv} {w : World} (hr : Rd fMv.kn w A row) (hm : row.length ≤ maxLen) (hw : ∀ m ∈ row, I64 m.n) :
    Calls Try.prog 33 #[.slice A row.length c] w fun e w' => ∃ v, e = .returned v ∧ v = .agg #[.int .i64 (usualF row).d, .int .i64 (usualF row).n] ∧ Holds w [] w' := by
  unfold maxLen at hm
  refine calls_of Try.func33 rfl Try.ntmps33 rfl ?_
  have H := Holds.start w
  refine wc_seq ?_
  refine wc_region ?_
  refine wl_alloc (cs := [.int .i64 0, .int .i64 0]) H rfl zv48 rfl ?_
  intro b2 w1 hb2 H2
  refine wl_nil ?_
  refine wc_seq ?_
  refine wc_region ?_
  refine wl_mkmap KI (Value.int .i64) H2 rfl ?_
  intro bm w3 hbm H3
  refine wl_v rfl rfl rfl (v_assign rfl) ?_
  refine wl_nil ?_
  refine wc_seq ?_
  refine wc_seq ?_
  refine wc_region ?_
  refine wl_v rfl rfl rfl (v_move rfl) ?_
  refine wl_v rfl rfl rfl (v_len Try.underlying38 rfl) ?_
  refine wl_v rfl rfl rfl (v_move rfl) ?_
  refine wl_nil ?_
  refine wc_block ?_
  refine wc_loop (σ := Nat) (fun s => [(2, .pointer (some ⟨b2, 0, none⟩)), (3, .map (some bm)), (10, .slice A row.length c), (11, .int .i64 row.length), (12, .int .i64 s)]) (fun s W => s ≤ row.length ∧ Holds w [Mp KI (Value.int .i64) bm s (fC (row.take s)), Blk b2 48 [.int .i64 0, .int .i64 0]] W) (fun s => row.length - s) 0 (sc rfl (sc rfl (sc rfl (sc rfl (sc rfl (sn _)))))) ⟨Nat.zero_le _, by rw [fC_nil] at H3; exact H3⟩ ?_
  rintro i W0 ⟨hi, H⟩
  refine wc_seq ?_
  refine wc_region ?_
  refine wl_v rfl rfl rfl (v_lss rfl rfl) ?_
  refine wl_nil ?_
  refine wc_seq ?_
  refine wc_cond rfl (fun c0 => ?_) (fun c0 => ?_)
  · have c0p := of_decide_eq_true c0
    have hin : i < row.length := by omega
    have hwn := hw (row.getD i mv0) (getD_mem hin)
    have hcl := Nat.le_trans (cnt_le (row.take i) (row.getD i mv0).n) (List.length_take_le _ _)
    refine wc_skip ?_
    refine wc_seq ?_
    refine wc_block ?_
    refine wc_seq ?_
    refine wc_region ?_
    refine wl_v rfl rfl rfl (v_idx Try.underlying38 sz48 hr.ad rfl rfl (by omega) (by omega)) ?_
    refine wl_v rfl rfl rfl (v_loadN (cs := fMv.enc _) agg48 rfl rfl (fun k u hu => H.cell (hr.at (k := k) mv0 (by omega) (by omega) hu))) ?_
    refine wl_alloc (cs := [.int .i64 0, .int .i64 0]) H rfl zv48 rfl ?_
    intro b5 w4 hb5 H5
    refine wl_store (vs := [_, _]) H5 (by repeat constructor) sz48 rfl rfl rfl rfl rfl (by repeat constructor) ?_
    intro w6 H7 hw6
    refine wl_nil ?_
    refine wc_seq ?_
    refine wc_region ?_
    refine wl_v rfl rfl rfl (v_fb (o2 := 0) fa48_0 rfl rfl) ?_
    refine wl_v rfl rfl rfl (v_load one3 rfl (H7.at (by repeat constructor) rfl)) ?_
    refine wl_v rfl rfl rfl (v_eql rfl rfl) ?_
    refine wl_nil ?_
    refine wc_cond rfl (fun c1 => ?_) (fun c1 => ?_)
    · have c1p := of_decide_eq_true c1
      refine wc_region ?_
      refine wl_v rfl rfl rfl (v_move rfl) ?_
      refine wl_v rfl rfl rfl (v_fb (o2 := 1) fa48_1 rfl rfl) ?_
      refine wl_v rfl rfl rfl (v_load one3 rfl (H7.at (by repeat constructor) rfl)) ?_
      refine wl_v rfl rfl rfl (v_look' H7 (by repeat constructor) Try.underlying116 zv3 (wf64 hwn) rfl rfl (fC_get _ _)) ?_
      refine wl_v rfl rfl rfl (v_addi rfl rfl (by omega)) ?_
      refine wl_mapset H7 (by repeat constructor) Try.underlying116 (wf64 hwn) (by unfold maxLen; omega) rfl rfl rfl ?_
      intro w9 H9
      refine wl_nil ?_
      refine wc_region ?_
      refine wl_v rfl rfl rfl (v_addi rfl rfl (by omega)) ?_
      refine wl_v rfl rfl rfl (v_move rfl) ?_
      refine wl_nil ?_
      first
        | exact ⟨i + 1, (sc rfl (sc rfl (sc rfl (sc rfl (sc rfl (sn _)))))), ⟨by omega, H9.tail.imp (by repeat constructor) (fun S h => by rw [fC_step hin c1p] at h; exact h)⟩, by omega⟩
        | exact ⟨i + 1, (sc rfl (sc rfl (sc rfl (sc rfl (sc rfl (sn _)))))), ⟨by omega, H9.tail.imp (B := Mp KI (Value.int .i64) bm (i + 1) (fC (row.take (i + 1)))) (by repeat constructor) (fun S h => by rw [fC_skip hin c1p] at h; exact Mp.mono (Nat.le_succ i) S h)⟩, by omega⟩
    · have c1p := of_decide_eq_false c1
      refine wc_skip ?_
      refine wc_region ?_
      refine wl_v rfl rfl rfl (v_addi rfl rfl (by omega)) ?_
      refine wl_v rfl rfl rfl (v_move rfl) ?_
      refine wl_nil ?_
      first
        | exact ⟨i + 1, (sc rfl (sc rfl (sc rfl (sc rfl (sc rfl (sn _)))))), ⟨by omega, H7.tail.imp (by repeat constructor) (fun S h => by rw [fC_step hin c1p] at h; exact h)⟩, by omega⟩
        | exact ⟨i + 1, (sc rfl (sc rfl (sc rfl (sc rfl (sc rfl (sn _)))))), ⟨by omega, H7.tail.imp (B := Mp KI (Value.int .i64) bm (i + 1) (fC (row.take (i + 1)))) (by repeat constructor) (fun S h => by rw [fC_skip hin c1p] at h; exact Mp.mono (Nat.le_succ i) S h)⟩, by omega⟩
  · have c0p := of_decide_eq_false c0
    rw [take_all c0p] at H
    refine wc_exit ?_
    refine wc_seq ?_
    refine wc_region ?_
    refine wl_v rfl rfl rfl (v_bld ba48 rfl (by repeat constructor)) ?_
    refine wl_alloc (cs := [.int .i64 0, .int .i64 0]) H rfl zv48 rfl ?_
    intro b6 w10 hb6 H11
    refine wl_store (vs := [_, _]) H11 (by repeat constructor) sz48 rfl rfl rfl rfl rfl (by repeat constructor) ?_
    intro w12 H13 hw12
    refine wl_nil ?_
    refine wc_seq ?_
    refine wc_seq ?_
    refine wc_region ?_
    refine wl_v rfl rfl rfl (v_move rfl) ?_
    refine wl_range H13 (fun r cnt => (by repeat constructor)) Try.underlying116 rfl rfl ?_
    intro r cn w14 hr14 H14
    refine wl_nil ?_
    refine wc_block ?_
    refine wc_loop (σ := (Int → Bool) × Nat × Mv × Option (Int × Int)) (fun s => [(2, .pointer (some ⟨b2, 0, none⟩)), (3, .map (some bm)), (6, .pointer (some ⟨b6, 0, none⟩)), (27, .pointer (some ⟨r, 0, none⟩))]) (fun s W => Best row (fun x => 0 < cnt row x ∧ s.1 x = false) s.2.2.1 ∧ Holds w [Blk b6 48 [.int .i64 s.2.2.1.d, .int .i64 s.2.2.1.n], It KI (Value.int .i64) bm r row.length (fC row) s.1 s.2.1 s.2.2.2, Blk b2 48 [.int .i64 0, .int .i64 0]] W) (fun s => s.2.1) (fun x => (fC row x).isSome, cn, mv0, none) (sc rfl (sc rfl (sc rfl (sc rfl (sn _))))) ⟨.inl ⟨rfl, fun x hx => absurd (((fC_isSome row x).2 hx.1).symm.trans hx.2) (by simp)⟩, H14.imp (B := It KI (Value.int .i64) bm r row.length (fC row) _ cn none) (by repeat constructor) (fun S h => It.mono hi S h)⟩ ?_
    rintro ⟨left, cn, best, cur⟩ W1 ⟨hb, H⟩
    dsimp only at hb H
    have hwb := Best.i64 hw (fun x hx => hx.1) hb
    refine wc_seq ?_
    refine wc_region ?_
    refine wl_next H (fun _ _ _ => (by repeat constructor)) rfl rfl (fun hdone => ?_) (fun kx vx left2 cn2 wn hk1 hk2 hk3 hk4 hk5 Hn => ?_)
    · refine wl_v rfl rfl rfl (v_extract rfl rfl) ?_
      refine wl_nil ?_
      refine wc_seq ?_
      refine wc_cond_f rfl ?_
      refine wc_exit ?_
      refine wc_seq ?_
      refine wc_region ?_
      refine wl_v rfl rfl rfl (v_loadN agg48 rfl rfl (H.ats (by repeat constructor))) ?_
      refine wl_store (vs := [_, _]) H (by repeat constructor) sz48 rfl rfl rfl rfl rfl (by repeat constructor) ?_
      intro w15 H16 hw15
      refine wl_nil ?_
      refine wc_ret ?_
      exact ⟨_, resc rfl rfl (run_loadVarN agg48 rfl (H16.ats (by repeat constructor))), by rw [show best = usualF row from (hb.usual fun x => ⟨fun h => h.1, fun h => ⟨h, hdone x (wf64 (cnt_i64 hw h))⟩⟩).unique (usualF_is row)], ((H16.drop (by repeat constructor)).drop (by repeat constructor)).tail⟩
    · refine wl_v rfl rfl rfl (v_extract rfl rfl) ?_
      refine wl_nil ?_
      refine wc_seq ?_
      refine wc_cond_t rfl ?_
      refine wc_skip ?_
      refine wc_block ?_
      refine wc_seq ?_
      refine wc_region ?_
      refine wl_v rfl rfl rfl (v_entry Hn (by repeat constructor) rfl) ?_
      refine wl_v rfl rfl rfl (v_extract rfl rfl) ?_
      refine wl_v rfl rfl rfl (v_extract rfl rfl) ?_
      refine wl_v rfl rfl rfl (v_assign rfl) ?_
      refine wl_v rfl rfl rfl (v_assign rfl) ?_
      refine wl_nil ?_
      refine wc_seq ?_
      refine wc_region ?_
      refine wl_v rfl rfl rfl (v_fb (o2 := 0) fa48_0 rfl rfl) ?_
      refine wl_v rfl rfl rfl (v_load one3 rfl (Hn.at (by repeat constructor) rfl)) ?_
      refine wl_v rfl rfl rfl (v_eql rfl rfl) ?_
      refine wl_v rfl rfl rfl (v_move rfl) ?_
      refine wl_guard rfl rfl rfl (fun g36 => ?_) (fun g36 => ?_)
      · have g36p := of_decide_eq_false g36
        refine wl_v rfl rfl rfl (v_move rfl) ?_
        refine wl_on' rfl rfl g36 ?_
        refine wl_v rfl rfl rfl (v_move rfl) ?_
        refine wl_on' rfl rfl g36 ?_
        refine wl_v rfl rfl rfl (v_fb (o2 := 1) fa48_1 rfl rfl) ?_
        refine wl_on' rfl rfl g36 ?_
        refine wl_v rfl rfl rfl (v_load one3 rfl (Hn.at (by repeat constructor) rfl)) ?_
        refine wl_on' rfl rfl g36 ?_
        refine wl_v rfl rfl rfl (v_lookI Hn (by repeat constructor) Try.underlying116 zv3 (wf64 hwb) rfl rfl (fC_get _ _)) ?_
        refine wl_on' rfl rfl g36 ?_
        refine wl_v rfl rfl rfl (v_gtr rfl rfl) ?_
        refine wl_v rfl rfl rfl (v_pick_f rfl g36 rfl) ?_
        refine wl_v rfl rfl rfl (v_move rfl) ?_
        refine wl_guard rfl rfl rfl (fun g44 => ?_) (fun g44 => ?_)
        · have g44p := of_decide_eq_false g44
          refine wl_v rfl rfl rfl (v_move rfl) ?_
          refine wl_on' rfl rfl g44 ?_
          refine wl_v rfl rfl rfl (v_move rfl) ?_
          refine wl_on' rfl rfl g44 ?_
          refine wl_v rfl rfl rfl (v_fb (o2 := 1) fa48_1 rfl rfl) ?_
          refine wl_on' rfl rfl g44 ?_
          refine wl_v rfl rfl rfl (v_load one3 rfl (Hn.at (by repeat constructor) rfl)) ?_
          refine wl_on' rfl rfl g44 ?_
          refine wl_v rfl rfl rfl (v_lookI Hn (by repeat constructor) Try.underlying116 zv3 (wf64 hwb) rfl rfl (fC_get _ _)) ?_
          refine wl_on' rfl rfl g44 ?_
          refine wl_v rfl rfl rfl (v_eql rfl rfl) ?_
          refine wl_on' rfl rfl g44 ?_
          refine wl_v rfl rfl rfl (v_move rfl) ?_
          refine wl_guard rfl rfl rfl (fun g51 => ?_) (fun g51 => ?_)
          · have g51p := of_decide_eq_true g51
            refine wl_v rfl rfl rfl (v_move rfl) ?_
            refine wl_on' rfl rfl g51 ?_
            refine wl_v rfl rfl rfl (v_fb (o2 := 1) fa48_1 rfl rfl) ?_
            refine wl_on' rfl rfl g51 ?_
            refine wl_v rfl rfl rfl (v_load one3 rfl (Hn.at (by repeat constructor) rfl)) ?_
            refine wl_on' rfl rfl g51 ?_
            refine wl_v rfl rfl rfl (v_lss rfl rfl) ?_
            refine wl_on' rfl rfl g44 ?_
            refine wl_v rfl rfl rfl (v_pick_t rfl g51 rfl) ?_
            refine wl_v rfl rfl rfl (v_pick_f rfl g44 rfl) ?_
            refine wl_nil ?_
            refine wc_cond rfl (fun c3 => ?_) (fun c3 => ?_)
            · have c3p := of_decide_eq_true c3
              refine wc_region ?_
              refine wl_v rfl rfl rfl (v_move rfl) ?_
              refine wl_v rfl rfl rfl (v_bld ba48 rfl (by repeat constructor)) ?_
              refine wl_store (vs := [_, _]) Hn (by repeat constructor) sz48 rfl rfl rfl rfl rfl (by repeat constructor) ?_
              intro w20 H21 hw20
              refine wl_nil ?_
              obtain ⟨hc0, rfl⟩ := fC_some hk3
              have hq := left_step hw hc0 hk4
              first
                | exact ⟨(left2, cn2, ⟨2, kx⟩, some (kx, _)), (sc rfl (sc rfl (sc rfl (sc rfl (sn _))))), ⟨by have h := hb.step hq; rwa [if_pos (by unfold better; simp only [Bool.or_eq_true, Bool.and_eq_true, decide_eq_true_eq]; omega)] at h, H21⟩, hk5⟩
                | exact ⟨(left2, cn2, best, some (kx, _)), (sc rfl (sc rfl (sc rfl (sc rfl (sn _))))), ⟨by have h := hb.step hq; rwa [if_neg (by unfold better; simp only [Bool.or_eq_true, Bool.and_eq_true, decide_eq_true_eq]; omega)] at h, H21⟩, hk5⟩
            · have c3p := of_decide_eq_false c3
              refine wc_skip ?_
              obtain ⟨hc0, rfl⟩ := fC_some hk3
              have hq := left_step hw hc0 hk4
              first
                | exact ⟨(left2, cn2, ⟨2, kx⟩, some (kx, _)), (sc rfl (sc rfl (sc rfl (sc rfl (sn _))))), ⟨by have h := hb.step hq; rwa [if_pos (by unfold better; simp only [Bool.or_eq_true, Bool.and_eq_true, decide_eq_true_eq]; omega)] at h, Hn⟩, hk5⟩
                | exact ⟨(left2, cn2, best, some (kx, _)), (sc rfl (sc rfl (sc rfl (sc rfl (sn _))))), ⟨by have h := hb.step hq; rwa [if_neg (by unfold better; simp only [Bool.or_eq_true, Bool.and_eq_true, decide_eq_true_eq]; omega)] at h, Hn⟩, hk5⟩
          · have g51p := of_decide_eq_false g51
            refine wl_off rfl rfl g51 rfl ?_
            refine wl_off rfl rfl g51 rfl ?_
            refine wl_off rfl rfl g51 rfl ?_
            refine wl_on' rfl rfl g44 ?_
            refine wl_v rfl rfl rfl (v_pick_f rfl g51 rfl) ?_
            refine wl_v rfl rfl rfl (v_pick_f rfl g44 rfl) ?_
            refine wl_nil ?_
            refine wc_cond_f rfl ?_
            refine wc_skip ?_
            obtain ⟨hc0, rfl⟩ := fC_some hk3
            have hq := left_step hw hc0 hk4
            first
              | exact ⟨(left2, cn2, ⟨2, kx⟩, some (kx, _)), (sc rfl (sc rfl (sc rfl (sc rfl (sn _))))), ⟨by have h := hb.step hq; rwa [if_pos (by unfold better; simp only [Bool.or_eq_true, Bool.and_eq_true, decide_eq_true_eq]; omega)] at h, Hn⟩, hk5⟩
              | exact ⟨(left2, cn2, best, some (kx, _)), (sc rfl (sc rfl (sc rfl (sc rfl (sn _))))), ⟨by have h := hb.step hq; rwa [if_neg (by unfold better; simp only [Bool.or_eq_true, Bool.and_eq_true, decide_eq_true_eq]; omega)] at h, Hn⟩, hk5⟩
        · have g44p := of_decide_eq_true g44
          refine wl_off rfl rfl g44 rfl ?_
          refine wl_off rfl rfl g44 rfl ?_
          refine wl_off rfl rfl g44 rfl ?_
          refine wl_off rfl rfl g44 rfl ?_
          refine wl_off rfl rfl g44 rfl ?_
          refine wl_off rfl rfl g44 rfl ?_
          refine wl_offu rfl rfl rfl ?_
          refine wl_offu rfl rfl rfl ?_
          refine wl_offu rfl rfl rfl ?_
          refine wl_offu rfl rfl rfl ?_
          refine wl_off rfl rfl g44 rfl ?_
          refine wl_v rfl rfl rfl (v_pick_t rfl g44 rfl) ?_
          refine wl_nil ?_
          refine wc_cond_t rfl ?_
          refine wc_region ?_
          refine wl_v rfl rfl rfl (v_move rfl) ?_
          refine wl_v rfl rfl rfl (v_bld ba48 rfl (by repeat constructor)) ?_
          refine wl_store (vs := [_, _]) Hn (by repeat constructor) sz48 rfl rfl rfl rfl rfl (by repeat constructor) ?_
          intro w22 H23 hw22
          refine wl_nil ?_
          obtain ⟨hc0, rfl⟩ := fC_some hk3
          have hq := left_step hw hc0 hk4
          first
            | exact ⟨(left2, cn2, ⟨2, kx⟩, some (kx, _)), (sc rfl (sc rfl (sc rfl (sc rfl (sn _))))), ⟨by have h := hb.step hq; rwa [if_pos (by unfold better; simp only [Bool.or_eq_true, Bool.and_eq_true, decide_eq_true_eq]; omega)] at h, H23⟩, hk5⟩
            | exact ⟨(left2, cn2, best, some (kx, _)), (sc rfl (sc rfl (sc rfl (sc rfl (sn _))))), ⟨by have h := hb.step hq; rwa [if_neg (by unfold better; simp only [Bool.or_eq_true, Bool.and_eq_true, decide_eq_true_eq]; omega)] at h, H23⟩, hk5⟩
      · have g36p := of_decide_eq_true g36
        refine wl_off rfl rfl g36 rfl ?_
        refine wl_off rfl rfl g36 rfl ?_
        refine wl_off rfl rfl g36 rfl ?_
        refine wl_off rfl rfl g36 rfl ?_
        refine wl_off rfl rfl g36 rfl ?_
        refine wl_v rfl rfl rfl (v_pick_t rfl g36 rfl) ?_
        refine wl_v rfl rfl rfl (v_move rfl) ?_
        refine wl_off rfl rfl rfl rfl ?_
        refine wl_off rfl rfl rfl rfl ?_
        refine wl_off rfl rfl rfl rfl ?_
        refine wl_off rfl rfl rfl rfl ?_
        refine wl_off rfl rfl rfl rfl ?_
        refine wl_off rfl rfl rfl rfl ?_
        refine wl_off rfl rfl rfl rfl ?_
        refine wl_offu rfl rfl rfl ?_
        refine wl_offu rfl rfl rfl ?_
        refine wl_offu rfl rfl rfl ?_
        refine wl_offu rfl rfl rfl ?_
        refine wl_off rfl rfl rfl rfl ?_
        refine wl_v rfl rfl rfl (v_pick_t rfl rfl rfl) ?_
        refine wl_nil ?_
        refine wc_cond_t rfl ?_
        refine wc_region ?_
        refine wl_v rfl rfl rfl (v_move rfl) ?_
        refine wl_v rfl rfl rfl (v_bld ba48 rfl (by repeat constructor)) ?_
        refine wl_store (vs := [_, _]) Hn (by repeat constructor) sz48 rfl rfl rfl rfl rfl (by repeat constructor) ?_
        intro w24 H25 hw24
        refine wl_nil ?_
        obtain ⟨hc0, rfl⟩ := fC_some hk3
        have hq := left_step hw hc0 hk4
        first
          | exact ⟨(left2, cn2, ⟨2, kx⟩, some (kx, _)), (sc rfl (sc rfl (sc rfl (sc rfl (sn _))))), ⟨by have h := hb.step hq; rwa [if_pos (by unfold better; simp only [Bool.or_eq_true, Bool.and_eq_true, decide_eq_true_eq]; omega)] at h, H25⟩, hk5⟩
          | exact ⟨(left2, cn2, best, some (kx, _)), (sc rfl (sc rfl (sc rfl (sc rfl (sn _))))), ⟨by have h := hb.step hq; rwa [if_neg (by unfold better; simp only [Bool.or_eq_true, Bool.and_eq_true, decide_eq_true_eq]; omega)] at h, H25⟩, hk5⟩
end Go.Proofs.Ytkpehkadammppaa.UsualW
