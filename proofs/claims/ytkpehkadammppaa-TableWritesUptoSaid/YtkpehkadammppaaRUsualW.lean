/- What the document's usual tells. -/
import Derived.Test.YtkpehkadammppaaProg
import Derived.Test.YtkpehkadammppaaRUsual
set_option linter.unusedVariables false
set_option linter.unusedSimpArgs false
namespace Go.Proofs.Ytkpehkadammppaa.RUsualW
open Go Go.RowKit Go.Proofs.YtkpehkadammppaaFx 
theorem agg48 : Agg Try.prog 48 2 := agg_of Try.underlying48 (by kernel_rfl)
theorem ba48 : BuildAt Try.prog 48 [.int .i64 0, .int .i64 0] [(0, 1), (1, 1)] := build_at Try.underlying48 (by kernel_rfl) (by kernel_rfl)
theorem eqm48 : EqlMv Try.prog 48 := eql_mv (e := 3) Try.underlying48 (by kernel_rfl) (by kernel_rfl) Try.underlying3 rfl rfl
theorem fa48_0 : FieldAt Try.prog 48 0 0 := field_at (sz := 0) Try.underlying48 rfl (by kernel_rfl) rfl
theorem fa48_1 : FieldAt Try.prog 48 1 1 := field_at (sz := 0) Try.underlying48 rfl (by kernel_rfl) rfl
theorem mixed : Try.prog.follows .mixedOrders = true := by kernel_rfl
theorem one3 : One Try.prog 3 := one_of Try.underlying3 rfl (by kernel_rfl)
theorem sz48 : ∀ W, (sizeOf 48).run Try.prog W = .ok 2 W := size_of (by kernel_rfl)
theorem zv48 : ∀ W, (zeroValue 48).run Try.prog W = .ok (.agg #[.int .i64 0, .int .i64 0]) W := zero_of (by kernel_rfl)

set_option maxRecDepth 100000 in
theorem rusual_calls {A : Option Addr} {c : Nat} {row : List Mv} {w : World} (hr : Rd fMv.kn w A row) (hm : row.length ≤ 1099511627776) :
    Calls Try.prog 35 #[.slice A row.length c] w fun e w' => ∃ v, e = .returned v ∧ v = .agg #[.int .i64 (usualF row).d, .int .i64 (usualF row).n] ∧ Holds w [] w' := by
  refine calls_of Try.func35 rfl Try.ntmps35 rfl ?_
  have H := Holds.start w
  refine wc_seq ?_
  refine wc_region ?_
  refine wl_alloc (cs := [.int .i64 0, .int .i64 0]) H rfl zv48 rfl ?_
  intro b2 w1 hb2 H2
  refine wl_nil ?_
  refine wc_seq ?_
  refine wc_region ?_
  refine wl_v rfl rfl rfl (v_assign rfl) ?_
  refine wl_v rfl rfl rfl (v_assign rfl) ?_
  refine wl_nil ?_
  refine wc_seq ?_
  refine wc_seq ?_
  refine wc_region ?_
  refine wl_v rfl rfl rfl (v_assign rfl) ?_
  refine wl_nil ?_
  refine wc_block ?_
  refine wc_loop (σ := Nat × Int × Int) (fun s => [(0, .slice A row.length c), (2, .pointer (some ⟨b2, 0, none⟩)), (3, .int .i64 s.2.1), (4, .int .i64 s.2.2), (5, .int .i64 s.1)]) (fun s W => s.1 ≤ row.length ∧ RU row s.1 s.2.1 s.2.2 ∧ Holds w [Blk b2 48 [.int .i64 0, .int .i64 0]] W) (fun s => row.length - s.1) (0, -1, 0) (sc rfl (sc rfl (sc rfl (sc rfl (sc rfl (sn _)))))) ⟨Nat.zero_le _, .inl ⟨rfl, rfl, upto_zero⟩, H2⟩ ?_
  rintro ⟨i, best, most⟩ W0 ⟨hi, ha, H⟩
  dsimp only at hi ha H ⊢
  refine wc_seq ?_
  refine wc_seq ?_
  refine wc_region ?_
  refine wl_v rfl rfl rfl (v_move rfl) ?_
  refine wl_v rfl rfl rfl (v_move rfl) ?_
  refine wl_v rfl rfl rfl (v_len Try.underlying38 rfl) ?_
  refine wl_v rfl rfl rfl (v_lss rfl rfl) ?_
  refine wl_nil ?_
  refine wc_cond rfl (fun c0 => ?_) (fun c0 => ?_)
  · have c0p := of_decide_eq_true c0
    have hin : i < row.length := by omega
    refine wc_skip ?_
    refine wc_seq ?_
    refine wc_block ?_
    refine wc_seq ?_
    refine wc_seq ?_
    refine wc_region ?_
    refine wl_v rfl rfl rfl (v_move rfl) ?_
    refine wl_v rfl rfl rfl (v_move rfl) ?_
    refine wl_v rfl rfl rfl (v_idx Try.underlying38 sz48 hr.ad rfl rfl (by omega) (by omega)) ?_
    refine wl_v rfl rfl rfl (v_fp fa48_0 rfl) ?_
    refine wl_v rfl rfl rfl (v_load one3 rfl (H.cell (hr.atN (i := i) (k := 0) mv0 (by omega) rfl))) ?_
    refine wl_v rfl rfl rfl (v_neq rfl rfl) ?_
    refine wl_nil ?_
    refine wc_cond rfl (fun c1 => ?_) (fun c1 => ?_)
    · have c1p := of_nd_t c1
      refine wc_exit ?_
      refine wc_region ?_
      refine wl_v rfl rfl rfl (v_move rfl) ?_
      refine wl_v rfl rfl rfl (v_addi rfl rfl (by omega)) ?_
      refine wl_v rfl rfl rfl (v_assign rfl) ?_
      refine wl_nil ?_
      first
        | exact ⟨(i + 1, best, most), (sc rfl (sc rfl (sc rfl (sc rfl (sc rfl (sn _)))))), ⟨by dsimp only; omega, ha.skip c1p, H⟩, by dsimp only; omega⟩
        | exact ⟨(i + 1, _, _), (sc rfl (sc rfl (sc rfl (sc rfl (sc rfl (sn _)))))), ⟨by dsimp only; omega, ha.take hin c1p (by omega), H⟩, by dsimp only; omega⟩
        | exact ⟨(i + 1, best, most), (sc rfl (sc rfl (sc rfl (sc rfl (sc rfl (sn _)))))), ⟨by dsimp only; omega, ha.keep hin c1p (by omega), H⟩, by dsimp only; omega⟩
    · have c1p := of_nd_f c1
      refine wc_skip ?_
      refine wc_seq ?_
      refine wc_region ?_
      refine wl_v rfl rfl rfl (v_assign rfl) ?_
      refine wl_nil ?_
      refine wc_seq ?_
      refine wc_seq ?_
      refine wc_region ?_
      refine wl_v rfl rfl rfl (v_assign rfl) ?_
      refine wl_nil ?_
      refine wc_block ?_
      refine wc_loop (σ := Nat) (fun s => [(0, .slice A row.length c), (2, .pointer (some ⟨b2, 0, none⟩)), (3, .int .i64 best), (4, .int .i64 most), (5, .int .i64 i), (6, .int .i64 (cnt (row.take s) (row.getD i mv0).n)), (7, .int .i64 s)]) (fun s W => s ≤ row.length ∧ Holds w [Blk b2 48 [.int .i64 0, .int .i64 0]] W) (fun s => row.length - s) 0 (sc rfl (sc rfl (sc rfl (sc rfl (sc rfl (sc rfl (sc rfl (sn _)))))))) ⟨Nat.zero_le _, H⟩ ?_
      rintro s W1 ⟨hs, H⟩
      refine wc_seq ?_
      refine wc_seq ?_
      refine wc_region ?_
      refine wl_v rfl rfl rfl (v_move rfl) ?_
      refine wl_v rfl rfl rfl (v_move rfl) ?_
      refine wl_v rfl rfl rfl (v_len Try.underlying38 rfl) ?_
      refine wl_v rfl rfl rfl (v_lss rfl rfl) ?_
      refine wl_nil ?_
      refine wc_cond rfl (fun c2 => ?_) (fun c2 => ?_)
      · have c2p := of_decide_eq_true c2
        have hcl := Nat.le_trans (cnt_le (row.take s) (row.getD i mv0).n) (List.length_take_le _ _)
        refine wc_skip ?_
        refine wc_seq ?_
        refine wc_block ?_
        refine wc_seq ?_
        refine wc_still mixed (by kernel_rfl) ?_
        have Hd := H.drew
        refine ws_v rfl rfl rfl (v_move rfl) ?_
        refine ws_v rfl rfl rfl (v_move rfl) ?_
        refine ws_v rfl rfl rfl (v_idx Try.underlying38 sz48 hr.ad rfl rfl (by omega) (by omega)) ?_
        refine ws_v rfl rfl rfl (v_loadN (cs := fMv.enc _) agg48 rfl rfl (fun k u hu => Hd.cell (hr.atN (i := s) (k := k) mv0 (by omega) hu))) ?_
        refine ws_v rfl rfl rfl (v_move rfl) ?_
        refine ws_v rfl rfl rfl (v_move rfl) ?_
        refine ws_v rfl rfl rfl (v_idx Try.underlying38 sz48 hr.ad rfl rfl (by omega) (by omega)) ?_
        refine ws_v rfl rfl rfl (v_loadN (cs := fMv.enc _) agg48 rfl rfl (fun k u hu => Hd.cell (hr.atN (i := i) (k := k) mv0 (by omega) hu))) ?_
        refine ws_v rfl rfl rfl (v_eqlm  eqm48 rfl rfl) ?_
        refine ws_nil ?_
        refine wc_cond rfl (fun c3 => ?_) (fun c3 => ?_)
        · have c3p := of_decide_eq_true c3
          refine wc_region ?_
          refine wl_v rfl rfl rfl (v_move rfl) ?_
          refine wl_v rfl rfl rfl (v_addi rfl rfl (by omega)) ?_
          refine wl_v rfl rfl rfl (v_assign rfl) ?_
          refine wl_nil ?_
          refine wc_region ?_
          refine wl_v rfl rfl rfl (v_move rfl) ?_
          refine wl_v rfl rfl rfl (v_addi rfl rfl (by omega)) ?_
          refine wl_v rfl rfl rfl (v_assign rfl) ?_
          refine wl_nil ?_
          first
            | exact ⟨s + 1, (by rw [cnt_hit (by omega) c3p c1p]; exact (sc rfl (sc rfl (sc rfl (sc rfl (sc rfl (sc rfl (sc rfl (sn _))))))))), ⟨by omega, Hd⟩, by omega⟩
            | exact ⟨s + 1, (by rw [cnt_miss (by omega) c3p c1p]; exact (sc rfl (sc rfl (sc rfl (sc rfl (sc rfl (sc rfl (sc rfl (sn _))))))))), ⟨by omega, Hd⟩, by omega⟩
        · have c3p := of_decide_eq_false c3
          refine wc_skip ?_
          refine wc_region ?_
          refine wl_v rfl rfl rfl (v_move rfl) ?_
          refine wl_v rfl rfl rfl (v_addi rfl rfl (by omega)) ?_
          refine wl_v rfl rfl rfl (v_assign rfl) ?_
          refine wl_nil ?_
          first
            | exact ⟨s + 1, (by rw [cnt_hit (by omega) c3p c1p]; exact (sc rfl (sc rfl (sc rfl (sc rfl (sc rfl (sc rfl (sc rfl (sn _))))))))), ⟨by omega, Hd⟩, by omega⟩
            | exact ⟨s + 1, (by rw [cnt_miss (by omega) c3p c1p]; exact (sc rfl (sc rfl (sc rfl (sc rfl (sc rfl (sc rfl (sc rfl (sn _))))))))), ⟨by omega, Hd⟩, by omega⟩
      · have c2p := of_decide_eq_false c2
        rw [take_all c2p] at *
        refine wc_exit ?_
        refine wc_seq ?_
        refine wc_region ?_
        refine wl_v rfl rfl rfl (v_move rfl) ?_
        refine wl_v rfl rfl rfl (v_move rfl) ?_
        refine wl_v rfl rfl rfl (v_gtr rfl rfl) ?_
        refine wl_v rfl rfl rfl (v_move rfl) ?_
        refine wl_guard rfl rfl rfl (fun g40 => ?_) (fun g40 => ?_)
        · have g40p := of_decide_eq_false g40
          refine wl_v rfl rfl rfl (v_move rfl) ?_
          refine wl_on' rfl rfl g40 ?_
          refine wl_v rfl rfl rfl (v_move rfl) ?_
          refine wl_on' rfl rfl g40 ?_
          refine wl_v rfl rfl rfl (v_eql rfl rfl) ?_
          refine wl_on' rfl rfl g40 ?_
          refine wl_v rfl rfl rfl (v_move rfl) ?_
          refine wl_guard rfl rfl rfl (fun g44 => ?_) (fun g44 => ?_)
          · have g44p := of_decide_eq_true g44
            refine wl_v rfl rfl rfl (v_move rfl) ?_
            refine wl_on' rfl rfl g44 ?_
            refine wl_v rfl rfl rfl (v_move rfl) ?_
            refine wl_on' rfl rfl g44 ?_
            refine wl_v rfl rfl rfl (v_idx Try.underlying38 sz48 hr.ad rfl rfl (by omega) (by omega)) ?_
            refine wl_on' rfl rfl g44 ?_
            refine wl_v rfl rfl rfl (v_fp fa48_1 rfl) ?_
            refine wl_on' rfl rfl g44 ?_
            refine wl_v rfl rfl rfl (v_load one3 rfl (H.cell (hr.atN (i := i) (k := 1) mv0 (by omega) rfl))) ?_
            refine wl_on' rfl rfl g44 ?_
            refine wl_v rfl rfl rfl (v_move rfl) ?_
            refine wl_on' rfl rfl g44 ?_
            refine wl_v rfl rfl rfl (v_lss rfl rfl) ?_
            refine wl_on' rfl rfl g40 ?_
            refine wl_v rfl rfl rfl (v_pick_t rfl g44 rfl) ?_
            refine wl_v rfl rfl rfl (v_pick_f rfl g40 rfl) ?_
            refine wl_nil ?_
            refine wc_cond rfl (fun c4 => ?_) (fun c4 => ?_)
            · have c4p := of_decide_eq_true c4
              refine wc_region ?_
              refine wl_v rfl rfl rfl (v_move rfl) ?_
              refine wl_v rfl rfl rfl (v_move rfl) ?_
              refine wl_v rfl rfl rfl (v_idx Try.underlying38 sz48 hr.ad rfl rfl (by omega) (by omega)) ?_
              refine wl_v rfl rfl rfl (v_fp fa48_1 rfl) ?_
              refine wl_v rfl rfl rfl (v_load one3 rfl (H.cell (hr.atN (i := i) (k := 1) mv0 (by omega) rfl))) ?_
              refine wl_v rfl rfl rfl (v_move rfl) ?_
              refine wl_v rfl rfl rfl (v_assign rfl) ?_
              refine wl_v rfl rfl rfl (v_assign rfl) ?_
              refine wl_nil ?_
              refine wc_region ?_
              refine wl_v rfl rfl rfl (v_move rfl) ?_
              refine wl_v rfl rfl rfl (v_addi rfl rfl (by omega)) ?_
              refine wl_v rfl rfl rfl (v_assign rfl) ?_
              refine wl_nil ?_
              first
                | exact ⟨(i + 1, best, most), (sc rfl (sc rfl (sc rfl (sc rfl (sc rfl (sn _)))))), ⟨by dsimp only; omega, ha.skip c1p, H⟩, by dsimp only; omega⟩
                | exact ⟨(i + 1, _, _), (sc rfl (sc rfl (sc rfl (sc rfl (sc rfl (sn _)))))), ⟨by dsimp only; omega, ha.take hin c1p (by omega), H⟩, by dsimp only; omega⟩
                | exact ⟨(i + 1, best, most), (sc rfl (sc rfl (sc rfl (sc rfl (sc rfl (sn _)))))), ⟨by dsimp only; omega, ha.keep hin c1p (by omega), H⟩, by dsimp only; omega⟩
            · have c4p := of_decide_eq_false c4
              refine wc_skip ?_
              refine wc_region ?_
              refine wl_v rfl rfl rfl (v_move rfl) ?_
              refine wl_v rfl rfl rfl (v_addi rfl rfl (by omega)) ?_
              refine wl_v rfl rfl rfl (v_assign rfl) ?_
              refine wl_nil ?_
              first
                | exact ⟨(i + 1, best, most), (sc rfl (sc rfl (sc rfl (sc rfl (sc rfl (sn _)))))), ⟨by dsimp only; omega, ha.skip c1p, H⟩, by dsimp only; omega⟩
                | exact ⟨(i + 1, _, _), (sc rfl (sc rfl (sc rfl (sc rfl (sc rfl (sn _)))))), ⟨by dsimp only; omega, ha.take hin c1p (by omega), H⟩, by dsimp only; omega⟩
                | exact ⟨(i + 1, best, most), (sc rfl (sc rfl (sc rfl (sc rfl (sc rfl (sn _)))))), ⟨by dsimp only; omega, ha.keep hin c1p (by omega), H⟩, by dsimp only; omega⟩
          · have g44p := of_decide_eq_false g44
            refine wl_off rfl rfl g44 rfl ?_
            refine wl_off rfl rfl g44 rfl ?_
            refine wl_off rfl rfl g44 rfl ?_
            refine wl_off rfl rfl g44 rfl ?_
            refine wl_off rfl rfl g44 rfl ?_
            refine wl_off rfl rfl g44 rfl ?_
            refine wl_on' rfl rfl g40 ?_
            refine wl_v rfl rfl rfl (v_pick_f rfl g44 rfl) ?_
            refine wl_v rfl rfl rfl (v_pick_f rfl g40 rfl) ?_
            refine wl_nil ?_
            refine wc_cond_f rfl ?_
            refine wc_skip ?_
            refine wc_region ?_
            refine wl_v rfl rfl rfl (v_move rfl) ?_
            refine wl_v rfl rfl rfl (v_addi rfl rfl (by omega)) ?_
            refine wl_v rfl rfl rfl (v_assign rfl) ?_
            refine wl_nil ?_
            first
              | exact ⟨(i + 1, best, most), (sc rfl (sc rfl (sc rfl (sc rfl (sc rfl (sn _)))))), ⟨by dsimp only; omega, ha.skip c1p, H⟩, by dsimp only; omega⟩
              | exact ⟨(i + 1, _, _), (sc rfl (sc rfl (sc rfl (sc rfl (sc rfl (sn _)))))), ⟨by dsimp only; omega, ha.take hin c1p (by omega), H⟩, by dsimp only; omega⟩
              | exact ⟨(i + 1, best, most), (sc rfl (sc rfl (sc rfl (sc rfl (sc rfl (sn _)))))), ⟨by dsimp only; omega, ha.keep hin c1p (by omega), H⟩, by dsimp only; omega⟩
        · have g40p := of_decide_eq_true g40
          refine wl_off rfl rfl g40 rfl ?_
          refine wl_off rfl rfl g40 rfl ?_
          refine wl_off rfl rfl g40 rfl ?_
          refine wl_offu rfl rfl rfl ?_
          refine wl_offu rfl rfl rfl ?_
          refine wl_offu rfl rfl rfl ?_
          refine wl_offu rfl rfl rfl ?_
          refine wl_offu rfl rfl rfl ?_
          refine wl_offu rfl rfl rfl ?_
          refine wl_offu rfl rfl rfl ?_
          refine wl_off rfl rfl g40 rfl ?_
          refine wl_v rfl rfl rfl (v_pick_t rfl g40 rfl) ?_
          refine wl_nil ?_
          refine wc_cond_t rfl ?_
          refine wc_region ?_
          refine wl_v rfl rfl rfl (v_move rfl) ?_
          refine wl_v rfl rfl rfl (v_move rfl) ?_
          refine wl_v rfl rfl rfl (v_idx Try.underlying38 sz48 hr.ad rfl rfl (by omega) (by omega)) ?_
          refine wl_v rfl rfl rfl (v_fp fa48_1 rfl) ?_
          refine wl_v rfl rfl rfl (v_load one3 rfl (H.cell (hr.atN (i := i) (k := 1) mv0 (by omega) rfl))) ?_
          refine wl_v rfl rfl rfl (v_move rfl) ?_
          refine wl_v rfl rfl rfl (v_assign rfl) ?_
          refine wl_v rfl rfl rfl (v_assign rfl) ?_
          refine wl_nil ?_
          refine wc_region ?_
          refine wl_v rfl rfl rfl (v_move rfl) ?_
          refine wl_v rfl rfl rfl (v_addi rfl rfl (by omega)) ?_
          refine wl_v rfl rfl rfl (v_assign rfl) ?_
          refine wl_nil ?_
          first
            | exact ⟨(i + 1, best, most), (sc rfl (sc rfl (sc rfl (sc rfl (sc rfl (sn _)))))), ⟨by dsimp only; omega, ha.skip c1p, H⟩, by dsimp only; omega⟩
            | exact ⟨(i + 1, _, _), (sc rfl (sc rfl (sc rfl (sc rfl (sc rfl (sn _)))))), ⟨by dsimp only; omega, ha.take hin c1p (by omega), H⟩, by dsimp only; omega⟩
            | exact ⟨(i + 1, best, most), (sc rfl (sc rfl (sc rfl (sc rfl (sc rfl (sn _)))))), ⟨by dsimp only; omega, ha.keep hin c1p (by omega), H⟩, by dsimp only; omega⟩
  · have c0p := of_decide_eq_false c0
    refine wc_exit ?_
    refine wc_seq ?_
    refine wc_seq ?_
    refine wc_region ?_
    refine wl_v rfl rfl rfl (v_move rfl) ?_
    refine wl_v rfl rfl rfl (v_lss rfl rfl) ?_
    refine wl_v rfl rfl rfl (v_move rfl) ?_
    refine wl_guard rfl rfl rfl (fun g62 => ?_) (fun g62 => ?_)
    · have g62p := of_decide_eq_true g62
      refine wl_v rfl rfl rfl (v_move rfl) ?_
      refine wl_on' rfl rfl g62 ?_
      refine wl_v rfl rfl rfl (v_eql rfl rfl) ?_
      refine wl_v rfl rfl rfl (v_pick_t rfl g62 rfl) ?_
      refine wl_nil ?_
      refine wc_cond rfl (fun c5 => ?_) (fun c5 => ?_)
      · have c5p := of_decide_eq_true c5
        refine wc_seq ?_
        refine wc_region ?_
        refine wl_v rfl rfl rfl (v_bld ba48 rfl (by repeat constructor)) ?_
        refine wl_store (vs := [_, _]) H (by repeat constructor) sz48 rfl rfl rfl rfl rfl (by repeat constructor) ?_
        intro w3 H4 hw3
        refine wl_nil ?_
        refine wc_ret ?_
        first
          | exact ⟨_, resc rfl rfl (run_loadVarN agg48 rfl (H4.ats (by repeat constructor))), by rw [(ha.fin c0p).1 (by omega)]; rfl, H4.tail⟩
          | exact ⟨_, resc rfl rfl (run_loadVarN agg48 rfl (H4.ats (by repeat constructor))), by rw [(ha.fin c0p).2 (by omega)], H4.tail⟩
      · have c5p := of_decide_eq_false c5
        refine wc_skip ?_
        refine wc_seq ?_
        refine wc_region ?_
        refine wl_v rfl rfl rfl (v_move rfl) ?_
        refine wl_v rfl rfl rfl (v_bld ba48 rfl (by repeat constructor)) ?_
        refine wl_store (vs := [_, _]) H (by repeat constructor) sz48 rfl rfl rfl rfl rfl (by repeat constructor) ?_
        intro w5 H6 hw5
        refine wl_nil ?_
        refine wc_ret ?_
        first
          | exact ⟨_, resc rfl rfl (run_loadVarN agg48 rfl (H6.ats (by repeat constructor))), by rw [(ha.fin c0p).1 (by omega)]; rfl, H6.tail⟩
          | exact ⟨_, resc rfl rfl (run_loadVarN agg48 rfl (H6.ats (by repeat constructor))), by rw [(ha.fin c0p).2 (by omega)], H6.tail⟩
    · have g62p := of_decide_eq_false g62
      refine wl_off rfl rfl g62 rfl ?_
      refine wl_v rfl rfl rfl (v_pick_f rfl g62 rfl) ?_
      refine wl_nil ?_
      refine wc_cond_f rfl ?_
      refine wc_skip ?_
      refine wc_seq ?_
      refine wc_region ?_
      refine wl_v rfl rfl rfl (v_move rfl) ?_
      refine wl_v rfl rfl rfl (v_bld ba48 rfl (by repeat constructor)) ?_
      refine wl_store (vs := [_, _]) H (by repeat constructor) sz48 rfl rfl rfl rfl rfl (by repeat constructor) ?_
      intro w7 H8 hw7
      refine wl_nil ?_
      refine wc_ret ?_
      first
        | exact ⟨_, resc rfl rfl (run_loadVarN agg48 rfl (H8.ats (by repeat constructor))), by rw [(ha.fin c0p).1 (by omega)]; rfl, H8.tail⟩
        | exact ⟨_, resc rfl rfl (run_loadVarN agg48 rfl (H8.ats (by repeat constructor))), by rw [(ha.fin c0p).2 (by omega)], H8.tail⟩
end Go.Proofs.Ytkpehkadammppaa.RUsualW
