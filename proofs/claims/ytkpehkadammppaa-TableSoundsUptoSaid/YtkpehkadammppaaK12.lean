/- What the document's usual tells. Tables with their defaults, as the two make them. How table.laid lays rows. -/
import Derived.Test.YtkpehkadammppaaProg
import Derived.Test.YtkpehkadammppaaK08
import Derived.Test.YtkpehkadammppaaK10
import Derived.Test.YtkpehkadammppaaK11
set_option linter.unusedVariables false
set_option linter.unusedSimpArgs false
/-! What the document's usual tells. -/
namespace Go.Proofs.Ytkpehkadammppaa.RUsualW
open Go Go.RowKit Go.Proofs.YtkpehkadammppaaFx 
theorem agg48 : Agg Try.prog 48 2 := agg_of Try.underlying48 (by kernel_rfl)
theorem ba48 : BuildAt Try.prog 48 [.int .i64 0, .int .i64 0] [(0, 1), (1, 1)] := build_at Try.underlying48 (by kernel_rfl) (by kernel_rfl)
theorem eqm48 : EqlMv Try.prog 48 := eql_mv (e := 3) Try.underlying48 (by kernel_rfl) (by kernel_rfl) Try.underlying3 rfl rfl
theorem fa48_0 : FieldAt Try.prog 48 0 0 := field_at (sz := 0) Try.underlying48 rfl (by kernel_rfl) rfl
theorem fa48_1 : FieldAt Try.prog 48 1 1 := field_at (sz := 0) Try.underlying48 rfl (by kernel_rfl) rfl
theorem mixed : Try.prog.follows .mixedOrders = true := by kernel_rfl
theorem one3 : One Try.prog 3 := one_of Try.underlying3 rfl (by kernel_rfl)
theorem sz48 : ∀ W, (sizeOf 48).run Try.prog W = .ok 2 W := size_of (by kernel_rfl)
theorem zv48 : ∀ W, (zeroValue 48).run Try.prog W = .ok (.agg #[.int .i64 0, .int .i64 0]) W := zero_of (by kernel_rfl)

set_option maxRecDepth 100000 in
theorem rusual_calls {A : Option Addr} {c : Nat} {row : List Mv} {w : World} (hr : Rd fMv.kn w A row) (hm : row.length ≤ 1099511627776) :
    Calls Try.prog 35 #[.slice A row.length c] w fun e w' => ∃ v, e = .returned v ∧ v = .agg #[.int .i64 (usualF row).d, .int .i64 (usualF row).n] ∧ Holds w [] w' := by
  refine calls_of Try.func35 rfl Try.ntmps35 rfl ?_
  have H := Holds.start w
  refine wc_seq ?_
  refine wc_region ?_
  refine wl_alloc (cs := [.int .i64 0, .int .i64 0]) H rfl zv48 rfl ?_
  intro b2 w1 hb2 H2
  refine wl_nil ?_
  refine wc_seq ?_
  refine wc_region ?_
  refine wl_v rfl rfl rfl (v_assign rfl) ?_
  refine wl_v rfl rfl rfl (v_assign rfl) ?_
  refine wl_nil ?_
  refine wc_seq ?_
  refine wc_seq ?_
  refine wc_region ?_
  refine wl_v rfl rfl rfl (v_assign rfl) ?_
  refine wl_nil ?_
  refine wc_block ?_
  refine wc_loop (σ := Nat × Int × Int) (fun s => [(0, .slice A row.length c), (2, .pointer (some ⟨b2, 0, none⟩)), (3, .int .i64 s.2.1), (4, .int .i64 s.2.2), (5, .int .i64 s.1)]) (fun s W => s.1 ≤ row.length ∧ RU row s.1 s.2.1 s.2.2 ∧ Holds w [Blk b2 48 [.int .i64 0, .int .i64 0]] W) (fun s => row.length - s.1) (0, -1, 0) (sc rfl (sc rfl (sc rfl (sc rfl (sc rfl (sn _)))))) ⟨Nat.zero_le _, .inl ⟨rfl, rfl, upto_zero⟩, H2⟩ ?_
  rintro ⟨i, best, most⟩ W0 ⟨hi, ha, H⟩
  dsimp only at hi ha H ⊢
  refine wc_seq ?_
  refine wc_seq ?_
  refine wc_region ?_
  refine wl_v rfl rfl rfl (v_move rfl) ?_
  refine wl_v rfl rfl rfl (v_move rfl) ?_
  refine wl_v rfl rfl rfl (v_len Try.underlying38 rfl) ?_
  refine wl_v rfl rfl rfl (v_lss rfl rfl) ?_
  refine wl_nil ?_
  refine wc_cond rfl (fun c0 => ?_) (fun c0 => ?_)
  ·have c0p := of_decide_eq_true c0
   have hin : i < row.length := by omega
   refine wc_skip ?_
   refine wc_seq ?_
   refine wc_block ?_
   refine wc_seq ?_
   refine wc_seq ?_
   refine wc_region ?_
   refine wl_v rfl rfl rfl (v_move rfl) ?_
   refine wl_v rfl rfl rfl (v_move rfl) ?_
   refine wl_v rfl rfl rfl (v_idx Try.underlying38 sz48 hr.ad rfl rfl (by omega) (by omega)) ?_
   refine wl_v rfl rfl rfl (v_fp fa48_0 rfl) ?_
   refine wl_v rfl rfl rfl (v_load one3 rfl (H.cell (hr.atN (i := i) (k := 0) mv0 (by omega) rfl))) ?_
   refine wl_v rfl rfl rfl (v_neq rfl rfl) ?_
   refine wl_nil ?_
   refine wc_cond rfl (fun c1 => ?_) (fun c1 => ?_)
   ·have c1p := of_nd_t c1
    refine wc_exit ?_
    refine wc_region ?_
    refine wl_v rfl rfl rfl (v_move rfl) ?_
    refine wl_v rfl rfl rfl (v_addi rfl rfl (by omega)) ?_
    refine wl_v rfl rfl rfl (v_assign rfl) ?_
    refine wl_nil ?_
    first
      | exact ⟨(i + 1, best, most), (sc rfl (sc rfl (sc rfl (sc rfl (sc rfl (sn _)))))), ⟨by dsimp only; omega, ha.skip c1p, H⟩, by dsimp only; omega⟩
      | exact ⟨(i + 1, _, _), (sc rfl (sc rfl (sc rfl (sc rfl (sc rfl (sn _)))))), ⟨by dsimp only; omega, ha.take hin c1p (by omega), H⟩, by dsimp only; omega⟩
      | exact ⟨(i + 1, best, most), (sc rfl (sc rfl (sc rfl (sc rfl (sc rfl (sn _)))))), ⟨by dsimp only; omega, ha.keep hin c1p (by omega), H⟩, by dsimp only; omega⟩
   ·have c1p := of_nd_f c1
    refine wc_skip ?_
    refine wc_seq ?_
    refine wc_region ?_
    refine wl_v rfl rfl rfl (v_assign rfl) ?_
    refine wl_nil ?_
    refine wc_seq ?_
    refine wc_seq ?_
    refine wc_region ?_
    refine wl_v rfl rfl rfl (v_assign rfl) ?_
    refine wl_nil ?_
    refine wc_block ?_
    refine wc_loop (σ := Nat) (fun s => [(0, .slice A row.length c), (2, .pointer (some ⟨b2, 0, none⟩)), (3, .int .i64 best), (4, .int .i64 most), (5, .int .i64 i), (6, .int .i64 (cnt (row.take s) (row.getD i mv0).n)), (7, .int .i64 s)]) (fun s W => s ≤ row.length ∧ Holds w [Blk b2 48 [.int .i64 0, .int .i64 0]] W) (fun s => row.length - s) 0 (sc rfl (sc rfl (sc rfl (sc rfl (sc rfl (sc rfl (sc rfl (sn _)))))))) ⟨Nat.zero_le _, H⟩ ?_
    rintro s W1 ⟨hs, H⟩
    refine wc_seq ?_
    refine wc_seq ?_
    refine wc_region ?_
    refine wl_v rfl rfl rfl (v_move rfl) ?_
    refine wl_v rfl rfl rfl (v_move rfl) ?_
    refine wl_v rfl rfl rfl (v_len Try.underlying38 rfl) ?_
    refine wl_v rfl rfl rfl (v_lss rfl rfl) ?_
    refine wl_nil ?_
    refine wc_cond rfl (fun c2 => ?_) (fun c2 => ?_)
    ·have c2p := of_decide_eq_true c2
     have hcl := Nat.le_trans (cnt_le (row.take s) (row.getD i mv0).n) (List.length_take_le _ _)
     refine wc_skip ?_
     refine wc_seq ?_
     refine wc_block ?_
     refine wc_seq ?_
     refine wc_still mixed (by kernel_rfl) ?_
     have Hd := H.drew
     refine ws_v rfl rfl rfl (v_move rfl) ?_
     refine ws_v rfl rfl rfl (v_move rfl) ?_
     refine ws_v rfl rfl rfl (v_idx Try.underlying38 sz48 hr.ad rfl rfl (by omega) (by omega)) ?_
     refine ws_v rfl rfl rfl (v_loadN (cs := fMv.enc _) agg48 rfl rfl (fun k u hu => Hd.cell (hr.atN (i := s) (k := k) mv0 (by omega) hu))) ?_
     refine ws_v rfl rfl rfl (v_move rfl) ?_
     refine ws_v rfl rfl rfl (v_move rfl) ?_
     refine ws_v rfl rfl rfl (v_idx Try.underlying38 sz48 hr.ad rfl rfl (by omega) (by omega)) ?_
     refine ws_v rfl rfl rfl (v_loadN (cs := fMv.enc _) agg48 rfl rfl (fun k u hu => Hd.cell (hr.atN (i := i) (k := k) mv0 (by omega) hu))) ?_
     refine ws_v rfl rfl rfl (v_eqlm  eqm48 rfl rfl) ?_
     refine ws_nil ?_
     refine wc_cond rfl (fun c3 => ?_) (fun c3 => ?_)
     ·have c3p := of_decide_eq_true c3
      refine wc_region ?_
      refine wl_v rfl rfl rfl (v_move rfl) ?_
      refine wl_v rfl rfl rfl (v_addi rfl rfl (by omega)) ?_
      refine wl_v rfl rfl rfl (v_assign rfl) ?_
      refine wl_nil ?_
      refine wc_region ?_
      refine wl_v rfl rfl rfl (v_move rfl) ?_
      refine wl_v rfl rfl rfl (v_addi rfl rfl (by omega)) ?_
      refine wl_v rfl rfl rfl (v_assign rfl) ?_
      refine wl_nil ?_
      first
        | exact ⟨s + 1, (by rw [cnt_hit (by omega) c3p c1p]; exact (sc rfl (sc rfl (sc rfl (sc rfl (sc rfl (sc rfl (sc rfl (sn _))))))))), ⟨by omega, Hd⟩, by omega⟩
        | exact ⟨s + 1, (by rw [cnt_miss (by omega) c3p c1p]; exact (sc rfl (sc rfl (sc rfl (sc rfl (sc rfl (sc rfl (sc rfl (sn _))))))))), ⟨by omega, Hd⟩, by omega⟩
     ·have c3p := of_decide_eq_false c3
      refine wc_skip ?_
      refine wc_region ?_
      refine wl_v rfl rfl rfl (v_move rfl) ?_
      refine wl_v rfl rfl rfl (v_addi rfl rfl (by omega)) ?_
      refine wl_v rfl rfl rfl (v_assign rfl) ?_
      refine wl_nil ?_
      first
        | exact ⟨s + 1, (by rw [cnt_hit (by omega) c3p c1p]; exact (sc rfl (sc rfl (sc rfl (sc rfl (sc rfl (sc rfl (sc rfl (sn _))))))))), ⟨by omega, Hd⟩, by omega⟩
        | exact ⟨s + 1, (by rw [cnt_miss (by omega) c3p c1p]; exact (sc rfl (sc rfl (sc rfl (sc rfl (sc rfl (sc rfl (sc rfl (sn _))))))))), ⟨by omega, Hd⟩, by omega⟩
    ·have c2p := of_decide_eq_false c2
     rw [take_all c2p] at *
     refine wc_exit ?_
     refine wc_seq ?_
     refine wc_region ?_
     refine wl_v rfl rfl rfl (v_move rfl) ?_
     refine wl_v rfl rfl rfl (v_move rfl) ?_
     refine wl_v rfl rfl rfl (v_gtr rfl rfl) ?_
     refine wl_v rfl rfl rfl (v_move rfl) ?_
     refine wl_guard rfl rfl rfl (fun g40 => ?_) (fun g40 => ?_)
     ·have g40p := of_decide_eq_false g40
      refine wl_v rfl rfl rfl (v_move rfl) ?_
      refine wl_on' rfl rfl g40 ?_
      refine wl_v rfl rfl rfl (v_move rfl) ?_
      refine wl_on' rfl rfl g40 ?_
      refine wl_v rfl rfl rfl (v_eql rfl rfl) ?_
      refine wl_on' rfl rfl g40 ?_
      refine wl_v rfl rfl rfl (v_move rfl) ?_
      refine wl_guard rfl rfl rfl (fun g44 => ?_) (fun g44 => ?_)
      ·have g44p := of_decide_eq_true g44
       refine wl_v rfl rfl rfl (v_move rfl) ?_
       refine wl_on' rfl rfl g44 ?_
       refine wl_v rfl rfl rfl (v_move rfl) ?_
       refine wl_on' rfl rfl g44 ?_
       refine wl_v rfl rfl rfl (v_idx Try.underlying38 sz48 hr.ad rfl rfl (by omega) (by omega)) ?_
       refine wl_on' rfl rfl g44 ?_
       refine wl_v rfl rfl rfl (v_fp fa48_1 rfl) ?_
       refine wl_on' rfl rfl g44 ?_
       refine wl_v rfl rfl rfl (v_load one3 rfl (H.cell (hr.atN (i := i) (k := 1) mv0 (by omega) rfl))) ?_
       refine wl_on' rfl rfl g44 ?_
       refine wl_v rfl rfl rfl (v_move rfl) ?_
       refine wl_on' rfl rfl g44 ?_
       refine wl_v rfl rfl rfl (v_lss rfl rfl) ?_
       refine wl_on' rfl rfl g40 ?_
       refine wl_v rfl rfl rfl (v_pick_t rfl g44 rfl) ?_
       refine wl_v rfl rfl rfl (v_pick_f rfl g40 rfl) ?_
       refine wl_nil ?_
       refine wc_cond rfl (fun c4 => ?_) (fun c4 => ?_)
       ·have c4p := of_decide_eq_true c4
        refine wc_region ?_
        refine wl_v rfl rfl rfl (v_move rfl) ?_
        refine wl_v rfl rfl rfl (v_move rfl) ?_
        refine wl_v rfl rfl rfl (v_idx Try.underlying38 sz48 hr.ad rfl rfl (by omega) (by omega)) ?_
        refine wl_v rfl rfl rfl (v_fp fa48_1 rfl) ?_
        refine wl_v rfl rfl rfl (v_load one3 rfl (H.cell (hr.atN (i := i) (k := 1) mv0 (by omega) rfl))) ?_
        refine wl_v rfl rfl rfl (v_move rfl) ?_
        refine wl_v rfl rfl rfl (v_assign rfl) ?_
        refine wl_v rfl rfl rfl (v_assign rfl) ?_
        refine wl_nil ?_
        refine wc_region ?_
        refine wl_v rfl rfl rfl (v_move rfl) ?_
        refine wl_v rfl rfl rfl (v_addi rfl rfl (by omega)) ?_
        refine wl_v rfl rfl rfl (v_assign rfl) ?_
        refine wl_nil ?_
        first
          | exact ⟨(i + 1, best, most), (sc rfl (sc rfl (sc rfl (sc rfl (sc rfl (sn _)))))), ⟨by dsimp only; omega, ha.skip c1p, H⟩, by dsimp only; omega⟩
          | exact ⟨(i + 1, _, _), (sc rfl (sc rfl (sc rfl (sc rfl (sc rfl (sn _)))))), ⟨by dsimp only; omega, ha.take hin c1p (by omega), H⟩, by dsimp only; omega⟩
          | exact ⟨(i + 1, best, most), (sc rfl (sc rfl (sc rfl (sc rfl (sc rfl (sn _)))))), ⟨by dsimp only; omega, ha.keep hin c1p (by omega), H⟩, by dsimp only; omega⟩
       ·have c4p := of_decide_eq_false c4
        refine wc_skip ?_
        refine wc_region ?_
        refine wl_v rfl rfl rfl (v_move rfl) ?_
        refine wl_v rfl rfl rfl (v_addi rfl rfl (by omega)) ?_
        refine wl_v rfl rfl rfl (v_assign rfl) ?_
        refine wl_nil ?_
        first
          | exact ⟨(i + 1, best, most), (sc rfl (sc rfl (sc rfl (sc rfl (sc rfl (sn _)))))), ⟨by dsimp only; omega, ha.skip c1p, H⟩, by dsimp only; omega⟩
          | exact ⟨(i + 1, _, _), (sc rfl (sc rfl (sc rfl (sc rfl (sc rfl (sn _)))))), ⟨by dsimp only; omega, ha.take hin c1p (by omega), H⟩, by dsimp only; omega⟩
          | exact ⟨(i + 1, best, most), (sc rfl (sc rfl (sc rfl (sc rfl (sc rfl (sn _)))))), ⟨by dsimp only; omega, ha.keep hin c1p (by omega), H⟩, by dsimp only; omega⟩
      ·have g44p := of_decide_eq_false g44
       refine wl_off rfl rfl g44 rfl ?_
       refine wl_off rfl rfl g44 rfl ?_
       refine wl_off rfl rfl g44 rfl ?_
       refine wl_off rfl rfl g44 rfl ?_
       refine wl_off rfl rfl g44 rfl ?_
       refine wl_off rfl rfl g44 rfl ?_
       refine wl_on' rfl rfl g40 ?_
       refine wl_v rfl rfl rfl (v_pick_f rfl g44 rfl) ?_
       refine wl_v rfl rfl rfl (v_pick_f rfl g40 rfl) ?_
       refine wl_nil ?_
       refine wc_cond_f rfl ?_
       refine wc_skip ?_
       refine wc_region ?_
       refine wl_v rfl rfl rfl (v_move rfl) ?_
       refine wl_v rfl rfl rfl (v_addi rfl rfl (by omega)) ?_
       refine wl_v rfl rfl rfl (v_assign rfl) ?_
       refine wl_nil ?_
       first
         | exact ⟨(i + 1, best, most), (sc rfl (sc rfl (sc rfl (sc rfl (sc rfl (sn _)))))), ⟨by dsimp only; omega, ha.skip c1p, H⟩, by dsimp only; omega⟩
         | exact ⟨(i + 1, _, _), (sc rfl (sc rfl (sc rfl (sc rfl (sc rfl (sn _)))))), ⟨by dsimp only; omega, ha.take hin c1p (by omega), H⟩, by dsimp only; omega⟩
         | exact ⟨(i + 1, best, most), (sc rfl (sc rfl (sc rfl (sc rfl (sc rfl (sn _)))))), ⟨by dsimp only; omega, ha.keep hin c1p (by omega), H⟩, by dsimp only; omega⟩
     ·have g40p := of_decide_eq_true g40
      refine wl_off rfl rfl g40 rfl ?_
      refine wl_off rfl rfl g40 rfl ?_
      refine wl_off rfl rfl g40 rfl ?_
      refine wl_offu rfl rfl rfl ?_
      refine wl_offu rfl rfl rfl ?_
      refine wl_offu rfl rfl rfl ?_
      refine wl_offu rfl rfl rfl ?_
      refine wl_offu rfl rfl rfl ?_
      refine wl_offu rfl rfl rfl ?_
      refine wl_offu rfl rfl rfl ?_
      refine wl_off rfl rfl g40 rfl ?_
      refine wl_v rfl rfl rfl (v_pick_t rfl g40 rfl) ?_
      refine wl_nil ?_
      refine wc_cond_t rfl ?_
      refine wc_region ?_
      refine wl_v rfl rfl rfl (v_move rfl) ?_
      refine wl_v rfl rfl rfl (v_move rfl) ?_
      refine wl_v rfl rfl rfl (v_idx Try.underlying38 sz48 hr.ad rfl rfl (by omega) (by omega)) ?_
      refine wl_v rfl rfl rfl (v_fp fa48_1 rfl) ?_
      refine wl_v rfl rfl rfl (v_load one3 rfl (H.cell (hr.atN (i := i) (k := 1) mv0 (by omega) rfl))) ?_
      refine wl_v rfl rfl rfl (v_move rfl) ?_
      refine wl_v rfl rfl rfl (v_assign rfl) ?_
      refine wl_v rfl rfl rfl (v_assign rfl) ?_
      refine wl_nil ?_
      refine wc_region ?_
      refine wl_v rfl rfl rfl (v_move rfl) ?_
      refine wl_v rfl rfl rfl (v_addi rfl rfl (by omega)) ?_
      refine wl_v rfl rfl rfl (v_assign rfl) ?_
      refine wl_nil ?_
      first
        | exact ⟨(i + 1, best, most), (sc rfl (sc rfl (sc rfl (sc rfl (sc rfl (sn _)))))), ⟨by dsimp only; omega, ha.skip c1p, H⟩, by dsimp only; omega⟩
        | exact ⟨(i + 1, _, _), (sc rfl (sc rfl (sc rfl (sc rfl (sc rfl (sn _)))))), ⟨by dsimp only; omega, ha.take hin c1p (by omega), H⟩, by dsimp only; omega⟩
        | exact ⟨(i + 1, best, most), (sc rfl (sc rfl (sc rfl (sc rfl (sc rfl (sn _)))))), ⟨by dsimp only; omega, ha.keep hin c1p (by omega), H⟩, by dsimp only; omega⟩
  ·have c0p := of_decide_eq_false c0
   refine wc_exit ?_
   refine wc_seq ?_
   refine wc_seq ?_
   refine wc_region ?_
   refine wl_v rfl rfl rfl (v_move rfl) ?_
   refine wl_v rfl rfl rfl (v_lss rfl rfl) ?_
   refine wl_v rfl rfl rfl (v_move rfl) ?_
   refine wl_guard rfl rfl rfl (fun g62 => ?_) (fun g62 => ?_)
   ·have g62p := of_decide_eq_true g62
    refine wl_v rfl rfl rfl (v_move rfl) ?_
    refine wl_on' rfl rfl g62 ?_
    refine wl_v rfl rfl rfl (v_eql rfl rfl) ?_
    refine wl_v rfl rfl rfl (v_pick_t rfl g62 rfl) ?_
    refine wl_nil ?_
    refine wc_cond rfl (fun c5 => ?_) (fun c5 => ?_)
    ·have c5p := of_decide_eq_true c5
     refine wc_seq ?_
     refine wc_region ?_
     refine wl_v rfl rfl rfl (v_bld ba48 rfl (by repeat constructor)) ?_
     refine wl_store (vs := [_, _]) H (by repeat constructor) sz48 rfl rfl rfl rfl rfl (by (repeat constructor)) ?_
     intro w3 H4 hw3
     refine wl_nil ?_
     refine wc_ret ?_
     first
       | exact ⟨_, resc rfl rfl (run_loadVarN agg48 rfl (H4.ats (by repeat constructor))), by rw [(ha.fin c0p).1 (by omega)]; rfl, H4.tail⟩
       | exact ⟨_, resc rfl rfl (run_loadVarN agg48 rfl (H4.ats (by repeat constructor))), by rw [(ha.fin c0p).2 (by omega)], H4.tail⟩
    ·have c5p := of_decide_eq_false c5
     refine wc_skip ?_
     refine wc_seq ?_
     refine wc_region ?_
     refine wl_v rfl rfl rfl (v_move rfl) ?_
     refine wl_v rfl rfl rfl (v_bld ba48 rfl (by repeat constructor)) ?_
     refine wl_store (vs := [_, _]) H (by repeat constructor) sz48 rfl rfl rfl rfl rfl (by (repeat constructor)) ?_
     intro w5 H6 hw5
     refine wl_nil ?_
     refine wc_ret ?_
     first
       | exact ⟨_, resc rfl rfl (run_loadVarN agg48 rfl (H6.ats (by repeat constructor))), by rw [(ha.fin c0p).1 (by omega)]; rfl, H6.tail⟩
       | exact ⟨_, resc rfl rfl (run_loadVarN agg48 rfl (H6.ats (by repeat constructor))), by rw [(ha.fin c0p).2 (by omega)], H6.tail⟩
   ·have g62p := of_decide_eq_false g62
    refine wl_off rfl rfl g62 rfl ?_
    refine wl_v rfl rfl rfl (v_pick_f rfl g62 rfl) ?_
    refine wl_nil ?_
    refine wc_cond_f rfl ?_
    refine wc_skip ?_
    refine wc_seq ?_
    refine wc_region ?_
    refine wl_v rfl rfl rfl (v_move rfl) ?_
    refine wl_v rfl rfl rfl (v_bld ba48 rfl (by repeat constructor)) ?_
    refine wl_store (vs := [_, _]) H (by repeat constructor) sz48 rfl rfl rfl rfl rfl (by (repeat constructor)) ?_
    intro w7 H8 hw7
    refine wl_nil ?_
    refine wc_ret ?_
    first
      | exact ⟨_, resc rfl rfl (run_loadVarN agg48 rfl (H8.ats (by repeat constructor))), by rw [(ha.fin c0p).1 (by omega)]; rfl, H8.tail⟩
      | exact ⟨_, resc rfl rfl (run_loadVarN agg48 rfl (H8.ats (by repeat constructor))), by rw [(ha.fin c0p).2 (by omega)], H8.tail⟩
end Go.Proofs.Ytkpehkadammppaa.RUsualW

/-! Tables with their defaults, as the two make them. -/
namespace Go.Proofs.Ytkpehkadammppaa.DfltW
open Go Go.RowKit Go.Proofs.YtkpehkadammppaaFx Go.Proofs.Ytkpehkadammppaa.TabB Go.Proofs.Ytkpehkadammppaa.UsualW Go.Proofs.Ytkpehkadammppaa.RUsualW
theorem agg25 : Agg Try.prog 25 2 := agg_of Try.underlying25 (by kernel_rfl)
theorem agg48 : Agg Try.prog 48 2 := agg_of Try.underlying48 (by kernel_rfl)
theorem ba25 : BuildAt Try.prog 25 [.slice none 0 0, .slice none 0 0] [(0, 1), (1, 1)] := build_at Try.underlying25 (by kernel_rfl) (by kernel_rfl)
theorem en32 : Enters Try.prog 32 := enters Try.func32 (by kernel_rfl) rfl
theorem en33 : Enters Try.prog 33 := enters Try.func33 (by kernel_rfl) rfl
theorem en34 : Enters Try.prog 34 := enters Try.func34 (by kernel_rfl) rfl
theorem en35 : Enters Try.prog 35 := enters Try.func35 (by kernel_rfl) rfl
theorem fa25_0 : FieldAt Try.prog 25 0 0 := field_at (sz := 0) Try.underlying25 rfl (by kernel_rfl) rfl
theorem fa25_1 : FieldAt Try.prog 25 1 1 := field_at (sz := 0) Try.underlying25 rfl (by kernel_rfl) rfl
theorem fa48_0 : FieldAt Try.prog 48 0 0 := field_at (sz := 0) Try.underlying48 rfl (by kernel_rfl) rfl
theorem info3 : (Try.prog.info? 3).map (fun i => (i.zero, i.size, i.bytes)) = some (some (.int .i64 0), 1, 8) := by kernel_rfl
theorem info38 : (Try.prog.info? 38).map (fun i => (i.zero, i.size, i.bytes)) = some (some (.slice none 0 0), 1, 24) := by kernel_rfl
theorem info39 : (Try.prog.info? 39).map (fun i => (i.zero, i.size, i.bytes)) = some (some (.slice none 0 0), 1, 24) := by kernel_rfl
theorem info48 : (Try.prog.info? 48).map (fun i => (i.zero, i.size, i.bytes)) = some (some (.agg #[.int .i64 0, .int .i64 0]), 2, 16) := by kernel_rfl
theorem mixed : Try.prog.follows .mixedOrders = true := by kernel_rfl
theorem one22 : One Try.prog 22 := one_of Try.underlying22 rfl (by kernel_rfl)
theorem one23 : One Try.prog 23 := one_of Try.underlying23 rfl (by kernel_rfl)
theorem one3 : One Try.prog 3 := one_of Try.underlying3 rfl (by kernel_rfl)
theorem one38 : One Try.prog 38 := one_of Try.underlying38 rfl (by kernel_rfl)
theorem one39 : One Try.prog 39 := one_of Try.underlying39 rfl (by kernel_rfl)
theorem sz22 : ∀ W, (sizeOf 22).run Try.prog W = .ok 1 W := size_of (by kernel_rfl)
theorem sz23 : ∀ W, (sizeOf 23).run Try.prog W = .ok 1 W := size_of (by kernel_rfl)
theorem sz25 : ∀ W, (sizeOf 25).run Try.prog W = .ok 2 W := size_of (by kernel_rfl)
theorem sz38 : ∀ W, (sizeOf 38).run Try.prog W = .ok 1 W := size_of (by kernel_rfl)
theorem sz39 : ∀ W, (sizeOf 39).run Try.prog W = .ok 1 W := size_of (by kernel_rfl)
theorem sz48 : ∀ W, (sizeOf 48).run Try.prog W = .ok 2 W := size_of (by kernel_rfl)
theorem zv25 : ∀ W, (zeroValue 25).run Try.prog W = .ok (.agg #[.slice none 0 0, .slice none 0 0]) W := zero_of (by kernel_rfl)
theorem zv38 : ∀ W, (zeroValue 38).run Try.prog W = .ok (.slice none 0 0) W := zero_of (by kernel_rfl)
theorem zv39 : ∀ W, (zeroValue 39).run Try.prog W = .ok (.slice none 0 0) W := zero_of (by kernel_rfl)
theorem zv48 : ∀ W, (zeroValue 48).run Try.prog W = .ok (.agg #[.int .i64 0, .int .i64 0]) W := zero_of (by kernel_rfl)

set_option maxRecDepth 100000 in
theorem rdefaults_calls {A B : Option Addr} {ca cb : Nat} {t : Tb} {w : World} (hx : t.rd w A B) (hk : t.ok) :
    Calls Try.prog 11 #[t.val A B ca cb] w fun e w' => ∃ v, e = .returned v ∧ ∃ v1 v2, v = .tuple #[.agg #[v1, v2], .int .i64 (dfErr t)] ∧ Holds w (OwnT v1 v2 (dfAns t)) w' := by
  have hM := hx.m
  have hG := hx.g
  have q1 := hk.m'
  have q2 := hk.g'
  refine calls_of Try.func11 rfl Try.ntmps11 rfl ?_
  have H := Holds.start w
  refine wc_seq ?_
  refine wc_region ?_
  refine wl_box (cs := [_, _]) H rfl rfl rfl ?_
  intro b1 w1 hb1 H2
  refine wl_alloc (cs := [.slice none 0 0, .slice none 0 0]) H2 rfl zv25 rfl ?_
  intro b2 w3 hb2 H4
  refine wl_v rfl rfl rfl (v_assign rfl) ?_
  refine wl_nil ?_
  refine wc_seq ?_
  refine wc_seq ?_
  refine wc_region ?_
  refine wl_v rfl rfl rfl (v_loadN agg25 rfl rfl (H4.ats (by repeat constructor))) ?_
  refine wl_call en34 rfl rfl (rows_calls (hx.below H4.old) hk) ?_
  rintro _ w5 ⟨rfl, Hc⟩
  have H6 := H4.call Hc
  refine wl_v rfl rfl rfl (v_not rfl) ?_
  refine wl_nil ?_
  refine wc_cond rfl (fun c0 => ?_) (fun c0 => ?_)
  ·have c0p := of_n_t c0
   refine wc_seq ?_
   refine wc_region ?_
   refine wl_v rfl rfl rfl (v_bld ba25 rfl (by repeat constructor)) ?_
   refine wl_store (vs := [_, _]) H6 (by repeat constructor) sz25 rfl rfl rfl rfl rfl (by (repeat constructor)) ?_
   intro w7 H8 hw7
   refine wl_v rfl rfl rfl (v_assign rfl) ?_
   refine wl_nil ?_
   refine wc_ret ?_
   first
     | exact ⟨_, resc2 rfl rfl (run_loadVarN agg25 rfl (H8.ats (by repeat constructor))) rfl, _, _, by rw [(dfAns_t c0p).2], by rw [(dfAns_t c0p).1]; exact H8.pm (by repeat constructor)⟩
     | exact ⟨_, resc2 rfl rfl (run_loadVarN agg25 rfl (H8.ats (by repeat constructor))) rfl, _, _, by rw [(dfAns_f c0p).2], by rw [(dfAns_f c0p).1]; exact ((H8.rrNil fMv 38 48).rrNil (fInt .i64) 39 3).pm (by repeat constructor)⟩
  ·have c0p := of_n_f c0
   have hrect := of_dec c0p
   refine wc_skip ?_
   refine wc_seq ?_
   refine wc_region ?_
   refine wl_alloc (cs := [.slice none 0 0, .slice none 0 0]) H6 rfl zv25 rfl ?_
   intro b4 w9 hb4 H10
   refine wl_nil ?_
   refine wc_seq ?_
   refine wc_seq ?_
   refine wc_region ?_
   refine wl_v rfl rfl rfl (v_assign rfl) ?_
   refine wl_nil ?_
   refine wc_block ?_
   refine wc_loop (σ := Nat) (fun s => [(1, .pointer (some ⟨b1, 0, none⟩)), (2, .pointer (some ⟨b2, 0, none⟩)), (4, .pointer (some ⟨b4, 0, none⟩)), (5, .int .i64 s)]) (fun s W => s ≤ t.mv.length ∧ ∃ v1 v2, Holds w [RR fMv 38 48 v1 ((t.mv.take s).map dfRow), RR (fInt .i64) 39 3 v2 (t.go.take s), Blk b4 25 [v1, v2], Blk b2 25 [.slice none 0 0, .slice none 0 0], Blk b1 25 [.slice A t.mv.length ca, .slice B t.go.length cb]] W) (fun s => t.mv.length - s) 0 (sc rfl (sc rfl (sc rfl (sc rfl (sn _))))) ⟨Nat.zero_le _, _, _, ((H10.rrNil fMv 38 48).rrNil (fInt .i64) 39 3).pm (by repeat constructor)⟩ ?_
   rintro i W0 ⟨hi, v1, v2, H⟩
   refine wc_seq ?_
   refine wc_seq ?_
   refine wc_region ?_
   refine wl_v rfl rfl rfl (v_move rfl) ?_
   refine wl_v rfl rfl rfl (v_fb (o2 := 0) fa25_0 rfl rfl) ?_
   refine wl_v rfl rfl rfl (v_load one22 rfl (H.at (by repeat constructor) rfl)) ?_
   refine wl_v rfl rfl rfl (v_len Try.underlying22 rfl) ?_
   refine wl_v rfl rfl rfl (v_lss rfl rfl) ?_
   refine wl_nil ?_
   refine wc_cond rfl (fun c1 => ?_) (fun c1 => ?_)
   ·have c1p := of_decide_eq_true c1
    have r1 := hk.ml (i := i) (by omega)
    have r2 := hk.gl (i := i) (by have := hrect.2.2.1; omega)
    have r3 := hrect.2.2.1
    refine wc_skip ?_
    refine wc_seq ?_
    refine wc_block ?_
    refine wc_seq ?_
    refine wc_region ?_
    refine wl_v rfl rfl rfl (v_fb (o2 := 0) fa25_0 rfl rfl) ?_
    refine wl_v rfl rfl rfl (v_load one22 rfl (H.at (by repeat constructor) rfl)) ?_
    refine wl_v rfl rfl rfl (v_move rfl) ?_
    refine wl_v rfl rfl rfl (v_idx Try.underlying22 sz38 hM.ad rfl rfl (by omega) (by omega)) ?_
    obtain ⟨B24, cp24, hc24, hl24, hr24⟩ := hM.atSlN (i := i) (by omega)
    refine wl_v rfl rfl rfl (v_load one38 rfl (H.cell (hc24))) ?_
    refine wl_copy (f := fMv) (e := 48) H rfl Try.underlying38 info48 rfl (by decide) rfl rfl (hr24.below H.old) (by omega) (by decide) ?_
    intro A9 c9 w11 H11 hs11
    refine wl_v rfl rfl rfl (v_assign rfl) ?_
    refine wl_nil ?_
    refine wc_seq ?_
    refine wc_region ?_
    refine wl_v rfl rfl rfl (v_move rfl) ?_
    refine wl_call en35 rfl rfl (rusual_calls (H11.rrd (by repeat constructor)) (by omega)) ?_
    rintro _ w12 ⟨rfl, Hc⟩
    have H13 := H11.call Hc
    refine wl_alloc (cs := [.int .i64 0, .int .i64 0]) H13 rfl zv48 rfl ?_
    intro b7 w14 hb7 H15
    refine wl_store (vs := [_, _]) H15 (by repeat constructor) sz48 rfl rfl rfl rfl rfl (by (repeat constructor)) ?_
    intro w16 H17 hw16
    refine wl_nil ?_
    refine wc_seq ?_
    refine wc_seq ?_
    refine wc_region ?_
    refine wl_v rfl rfl rfl (v_assign rfl) ?_
    refine wl_nil ?_
    refine wc_block ?_
    refine wc_loop (σ := Nat) (fun s => [(1, .pointer (some ⟨b1, 0, none⟩)), (2, .pointer (some ⟨b2, 0, none⟩)), (4, .pointer (some ⟨b4, 0, none⟩)), (5, .int .i64 i), (6, .slice A9 (t.mv.getD i []).length c9), (7, .pointer (some ⟨b7, 0, none⟩)), (8, .int .i64 s)]) (fun s W => s ≤ (t.mv.getD i []).length ∧ Holds w [Blk b7 48 [.int .i64 (usualF (t.mv.getD i [])).d, .int .i64 (usualF (t.mv.getD i [])).n], Row fMv 48 (.slice A9 (t.mv.getD i []).length c9) (dfUpto (t.mv.getD i []) s), RR fMv 38 48 v1 ((t.mv.take i).map dfRow), RR (fInt .i64) 39 3 v2 (t.go.take i), Blk b4 25 [v1, v2], Blk b2 25 [.slice none 0 0, .slice none 0 0], Blk b1 25 [.slice A t.mv.length ca, .slice B t.go.length cb]] W) (fun s => (t.mv.getD i []).length - s) 0 (sc rfl (sc rfl (sc rfl (sc rfl (sc rfl (sc rfl (sc rfl (sn _)))))))) ⟨Nat.zero_le _, H17.pm (by repeat constructor)⟩ ?_
    rintro j W1 ⟨hj, H⟩
    refine wc_seq ?_
    refine wc_seq ?_
    refine wc_region ?_
    refine wl_v rfl rfl rfl (v_move rfl) ?_
    refine wl_v rfl rfl rfl (v_move rfl) ?_
    refine wl_v rfl rfl rfl (v_len Try.underlying38 rfl) ?_
    refine wl_v rfl rfl rfl (v_lss rfl rfl) ?_
    refine wl_nil ?_
    refine wc_cond rfl (fun c2 => ?_) (fun c2 => ?_)
    ·have c2p := of_decide_eq_true c2
     have hjl : j < (t.mv.getD i []).length := by omega
     have hdl := dfUpto_len (t.mv.getD i []) j
     have hrow := H.rrd (f := fMv) (e := 48) (A := A9) (xs := dfUpto (t.mv.getD i []) j) (by repeat constructor)
     have hrad : 0 < (t.mv.getD i []).length → A9 = some (adr A9) := fun h => hrow.ad (by omega)
     refine wc_skip ?_
     refine wc_seq ?_
     refine wc_block ?_
     refine wc_seq ?_
     refine wc_region ?_
     refine wl_v rfl rfl rfl (v_move rfl) ?_
     refine wl_v rfl rfl rfl (v_move rfl) ?_
     refine wl_v rfl rfl rfl (v_idx Try.underlying38 sz48 hrad rfl rfl (by omega) (by omega)) ?_
     refine wl_v rfl rfl rfl (v_fp fa48_0 rfl) ?_
     refine wl_v rfl rfl rfl (v_load one3 rfl (hrow.atN (i := j) (k := 0) mv0 (by omega) rfl)) ?_
     refine wl_v rfl rfl rfl (v_eql rfl rfl) ?_
     refine wl_nil ?_
     refine wc_cond rfl (fun c3 => ?_) (fun c3 => ?_)
     ·have c3p := of_decide_eq_true c3
      refine wc_region ?_
      refine wl_v rfl rfl rfl (v_move rfl) ?_
      refine wl_v rfl rfl rfl (v_move rfl) ?_
      refine wl_v rfl rfl rfl (v_loadN agg48 rfl rfl (H.ats (by repeat constructor))) ?_
      refine wl_v rfl rfl rfl (v_idx Try.underlying38 sz48 hrad rfl rfl (by omega) (by omega)) ?_
      refine wl_storeR (f := fMv) (xs := dfUpto (t.mv.getD i []) j) (i := (j : Int)) (x' := usualF (t.mv.getD i [])) H (by repeat constructor) sz48 rfl rfl rfl (by omega) (by omega) ?_
      intro w18 H18
      refine wl_nil ?_
      refine wc_region ?_
      refine wl_v rfl rfl rfl (v_move rfl) ?_
      refine wl_v rfl rfl rfl (v_addi rfl rfl (by omega)) ?_
      refine wl_v rfl rfl rfl (v_assign rfl) ?_
      refine wl_nil ?_
      first
        | exact ⟨j + 1, (sc rfl (sc rfl (sc rfl (sc rfl (sc rfl (sc rfl (sc rfl (sn _)))))))), ⟨by omega, by rw [dfUpto_next hjl, dfm, if_pos (by first | exact c3p | (rw [← dfUpto_get hjl]; exact c3p))]; exact H18.pm (by repeat constructor)⟩, by omega⟩
        | exact ⟨j + 1, (sc rfl (sc rfl (sc rfl (sc rfl (sc rfl (sc rfl (sc rfl (sn _)))))))), ⟨by omega, by rw [dfUpto_keep hjl (by first | exact c3p | (rw [← dfUpto_get hjl]; exact c3p))]; exact H18.pm (by repeat constructor)⟩, by omega⟩
     ·have c3p := of_decide_eq_false c3
      refine wc_skip ?_
      refine wc_region ?_
      refine wl_v rfl rfl rfl (v_move rfl) ?_
      refine wl_v rfl rfl rfl (v_addi rfl rfl (by omega)) ?_
      refine wl_v rfl rfl rfl (v_assign rfl) ?_
      refine wl_nil ?_
      first
        | exact ⟨j + 1, (sc rfl (sc rfl (sc rfl (sc rfl (sc rfl (sc rfl (sc rfl (sn _)))))))), ⟨by omega, by rw [dfUpto_next hjl, dfm, if_pos (by first | exact c3p | (rw [← dfUpto_get hjl]; exact c3p))]; exact H.pm (by repeat constructor)⟩, by omega⟩
        | exact ⟨j + 1, (sc rfl (sc rfl (sc rfl (sc rfl (sc rfl (sc rfl (sc rfl (sn _)))))))), ⟨by omega, by rw [dfUpto_keep hjl (by first | exact c3p | (rw [← dfUpto_get hjl]; exact c3p))]; exact H.pm (by repeat constructor)⟩, by omega⟩
    ·have c2p := of_decide_eq_false c2
     rw [dfUpto_all c2p] at H
     refine wc_exit ?_
     refine wc_seq ?_
     refine wc_region ?_
     refine wl_v rfl rfl rfl (v_fb (o2 := 0) fa25_0 rfl rfl) ?_
     refine wl_v rfl rfl rfl (v_load one22 rfl (H.at (by repeat constructor) rfl)) ?_
     refine wl_v rfl rfl rfl (v_move rfl) ?_
     refine wl_slit (v := .slice none 0 0) (z := [.slice none 0 0]) (cs := [.slice A9 (t.mv.getD i []).length c9]) (sz := 1) H rfl Try.underlying22 sz38 zv38 (by decide) (by decide) (by kernel_rfl) rfl (by repeat constructor) ?_
     intro b47 w19 hb47 H19 hs19
     refine wl_appRR (f := fMv) (e := 38) (e2 := 48) (u := .slice A9 (t.mv.getD i []).length c9) (xs := dfRow (t.mv.getD i [])) (xss := (t.mv.take i).map dfRow) H19 (by repeat constructor) (by repeat constructor) (H19.at (by repeat constructor) rfl) rfl Try.underlying22 info38 rfl rfl rfl (by simp only [List.length_map, List.length_take]; omega) (by decide) ?_
     intro A48 c48 w20 H20 hs20
     refine wl_v rfl rfl rfl (v_fb (o2 := 0) fa25_0 rfl rfl) ?_
     refine wl_store (vs := [_]) H20 (by repeat constructor) sz22 rfl rfl rfl rfl rfl (by (repeat constructor)) ?_
     intro w21 H22 hw21
     refine wl_nil ?_
     refine wc_held 7 10 (fun W => Holds w [Blk b4 25 [.slice A48 ((t.mv.take i).map dfRow ++ [dfRow (t.mv.getD i [])]).length c48, v2], Blk b1 25 [.slice A t.mv.length ca, .slice B t.go.length cb]] W) mixed (by kernel_rfl) (fun _ _ _ h => h) ?_
     have Hd := H22.drew
     refine wh_v rfl (Hd.pm (by repeat constructor)) rfl rfl rfl (fun W HW => v_fb (o2 := 1) fa25_1 rfl rfl) ?_
     refine wh_v rfl (Hd.pm (by repeat constructor)) rfl rfl rfl (fun W HW => v_load one23 rfl (HW.at (by repeat constructor) rfl)) ?_
     refine wh_v rfl (Hd.pm (by repeat constructor)) rfl rfl rfl (fun W HW => v_fb (o2 := 1) fa25_1 rfl rfl) ?_
     refine wh_v rfl (Hd.pm (by repeat constructor)) rfl rfl rfl (fun W HW => v_load one23 rfl (HW.at (by repeat constructor) rfl)) ?_
     refine wh_v rfl (Hd.pm (by repeat constructor)) rfl rfl rfl (fun W HW => v_move rfl) ?_
     refine wh_v rfl (Hd.pm (by repeat constructor)) rfl rfl rfl (fun W HW => v_idx Try.underlying23 sz39 hG.ad rfl rfl (by omega) (by omega)) ?_
     obtain ⟨B56, cp56, hc56, hl56, hr56⟩ := hG.atSlN (i := i) (by omega)
     refine wh_v rfl (Hd.pm (by repeat constructor)) rfl rfl rfl (fun W HW => v_load one39 rfl (HW.cell (hc56))) ?_
     refine wh_t rfl ?_
     refine wl_copy (f := fInt .i64) (e := 3) Hd rfl Try.underlying39 info3 rfl (by decide) rfl rfl (hr56.below Hd.old) (by omega) (by decide) ?_
     intro A57 c57 w23 H23 hs23
     refine wl_nil (tn ⟨fun hlt => H23.pm (by repeat constructor), ?_⟩)
     refine wh_t rfl ?_
     refine wl_slit (v := .slice none 0 0) (z := [.slice none 0 0]) (cs := [.slice A57 (t.go.getD i []).length c57]) (sz := 1) H23 rfl Try.underlying23 sz39 zv39 (by decide) (by decide) (by kernel_rfl) rfl (by repeat constructor) ?_
     intro b58 w24 hb58 H24 hs24
     refine wl_nil (tn ⟨fun hlt => H24.pm (by repeat constructor), ?_⟩)
     refine wh_t rfl ?_
     refine wl_appRR (f := fInt .i64) (e := 39) (e2 := 3) (u := .slice A57 (t.go.getD i []).length c57) (xs := t.go.getD i []) (xss := t.go.take i) H24 (by repeat constructor) (by repeat constructor) (H24.at (by repeat constructor) rfl) rfl Try.underlying23 info39 rfl rfl rfl (by simp only [List.length_take]; omega) (by decide) ?_
     intro A59 c59 w25 H25 hs25
     refine wl_nil (tn ⟨fun hlt => H25.pm (by repeat constructor), ?_⟩)
     refine wh_t rfl ?_
     refine wl_v rfl rfl rfl (v_fb (o2 := 1) fa25_1 rfl rfl) ?_
     refine wl_nil (tn ⟨fun hlt => absurd hlt (by decide), ?_⟩)
     refine wh_t rfl ?_
     refine wl_store (vs := [_]) H25 (by repeat constructor) sz23 rfl rfl rfl rfl rfl (by (repeat constructor)) ?_
     intro w26 H27 hw26
     refine wl_nil (tn ⟨fun hlt => absurd hlt (by decide), ?_⟩)
     refine wh_nil ?_
     refine wc_region ?_
     refine wl_v rfl rfl rfl (v_move rfl) ?_
     refine wl_v rfl rfl rfl (v_addi rfl rfl (by omega)) ?_
     refine wl_v rfl rfl rfl (v_assign rfl) ?_
     refine wl_nil ?_
     have e1 := map_take_succ (xs := t.mv) [] dfRow (i := i) (by omega)
     have e2 := take_succ' (xs := t.go) [] (i := i) (by omega)
     rw [← e1, ← e2] at H27
     exact ⟨i + 1, (sc rfl (sc rfl (sc rfl (sc rfl (sn _))))), ⟨by omega, _, _, H27.pm (by repeat constructor)⟩, by omega⟩
   ·have c1p := of_decide_eq_false c1
    have r3 := hrect.2.2.1
    rw [take_all c1p, take_all (xs := t.go) (by omega)] at H
    obtain ⟨A1, k1, rfl, _⟩ := H.rr (f := fMv) (e := 38) (e2 := 48) (v := v1) (xss := t.mv.map dfRow) (by repeat constructor)
    obtain ⟨A2, k2, rfl, _⟩ := H.rr (f := fInt .i64) (e := 39) (e2 := 3) (v := v2) (xss := t.go) (by repeat constructor)
    refine wc_exit ?_
    refine wc_seq ?_
    refine wc_region ?_
    refine wl_v rfl rfl rfl (v_loadN agg25 rfl rfl (H.ats (by repeat constructor))) ?_
    refine wl_store (vs := [_, _]) H (by repeat constructor) sz25 rfl rfl rfl rfl rfl (by (repeat constructor)) ?_
    intro w28 H29 hw28
    refine wl_v rfl rfl rfl (v_assign rfl) ?_
    refine wl_nil ?_
    refine wc_ret ?_
    first
      | exact ⟨_, resc2 rfl rfl (run_loadVarN agg25 rfl (H29.ats (by repeat constructor))) rfl, _, _, by rw [(dfAns_t c0p).2], by rw [(dfAns_t c0p).1]; exact H29.pm (by repeat constructor)⟩
      | exact ⟨_, resc2 rfl rfl (run_loadVarN agg25 rfl (H29.ats (by repeat constructor))) rfl, _, _, by rw [(dfAns_f c0p).2], by rw [(dfAns_f c0p).1]; exact ((H29.rrNil fMv 38 48).rrNil (fInt .i64) 39 3).pm (by repeat constructor)⟩

set_option maxRecDepth 100000 in
theorem defaults_calls {A B : Option Addr} {ca cb : Nat} {t : Tb} {w : World} (hx : t.rd w A B) (hk : t.ok) :
    Calls Try.prog 10 #[t.val A B ca cb] w fun e w' => ∃ v, e = .returned v ∧ ∃ v1 v2, v = .tuple #[.agg #[v1, v2], .int .i64 (dfErr t)] ∧ Holds w (OwnT v1 v2 (dfAns t)) w' := by
  have hM := hx.m
  have hG := hx.g
  have q1 := hk.m'
  have q2 := hk.g'
  refine calls_of Try.func10 rfl Try.ntmps10 rfl ?_
  have H := Holds.start w
  refine wc_seq ?_
  refine wc_region ?_
  refine wl_box (cs := [_, _]) H rfl rfl rfl ?_
  intro b1 w1 hb1 H2
  refine wl_alloc (cs := [.slice none 0 0, .slice none 0 0]) H2 rfl zv25 rfl ?_
  intro b2 w3 hb2 H4
  refine wl_v rfl rfl rfl (v_assign rfl) ?_
  refine wl_nil ?_
  refine wc_seq ?_
  refine wc_seq ?_
  refine wc_region ?_
  refine wl_v rfl rfl rfl (v_loadN agg25 rfl rfl (H4.ats (by repeat constructor))) ?_
  refine wl_call en32 rfl rfl (even_calls (hx.below H4.old) hk) ?_
  rintro _ w5 ⟨rfl, Hc⟩
  have H6 := H4.call Hc
  refine wl_v rfl rfl rfl (v_not rfl) ?_
  refine wl_nil ?_
  refine wc_cond rfl (fun c0 => ?_) (fun c0 => ?_)
  ·have c0p := of_n_t c0
   refine wc_seq ?_
   refine wc_region ?_
   refine wl_v rfl rfl rfl (v_bld ba25 rfl (by repeat constructor)) ?_
   refine wl_store (vs := [_, _]) H6 (by repeat constructor) sz25 rfl rfl rfl rfl rfl (by (repeat constructor)) ?_
   intro w7 H8 hw7
   refine wl_v rfl rfl rfl (v_assign rfl) ?_
   refine wl_nil ?_
   refine wc_ret ?_
   first
     | exact ⟨_, resc2 rfl rfl (run_loadVarN agg25 rfl (H8.ats (by repeat constructor))) rfl, _, _, by rw [(dfAns_t c0p).2], by rw [(dfAns_t c0p).1]; exact H8.pm (by repeat constructor)⟩
     | exact ⟨_, resc2 rfl rfl (run_loadVarN agg25 rfl (H8.ats (by repeat constructor))) rfl, _, _, by rw [(dfAns_f c0p).2], by rw [(dfAns_f c0p).1]; exact ((H8.rrNil fMv 38 48).rrNil (fInt .i64) 39 3).pm (by repeat constructor)⟩
  ·have c0p := of_n_f c0
   have hrect := of_dec c0p
   refine wc_skip ?_
   refine wc_seq ?_
   refine wc_region ?_
   refine wl_v rfl rfl rfl (v_bld ba25 rfl (by repeat constructor)) ?_
   refine wl_alloc (cs := [.slice none 0 0, .slice none 0 0]) H6 rfl zv25 rfl ?_
   intro b4 w9 hb4 H10
   refine wl_store (vs := [_, _]) H10 (by repeat constructor) sz25 rfl rfl rfl rfl rfl (by (repeat constructor)) ?_
   intro w11 H12 hw11
   refine wl_nil ?_
   refine wc_seq ?_
   refine wc_seq ?_
   refine wc_region ?_
   refine wl_v rfl rfl rfl (v_fb (o2 := 0) fa25_0 rfl rfl) ?_
   refine wl_v rfl rfl rfl (v_load one22 rfl (H12.at (by repeat constructor) rfl)) ?_
   refine wl_v rfl rfl rfl (v_len Try.underlying22 rfl) ?_
   refine wl_v rfl rfl rfl (v_move rfl) ?_
   refine wl_nil ?_
   refine wc_block ?_
   refine wc_loop (σ := Nat) (fun s => [(1, .pointer (some ⟨b1, 0, none⟩)), (2, .pointer (some ⟨b2, 0, none⟩)), (4, .pointer (some ⟨b4, 0, none⟩)), (17, .slice A t.mv.length ca), (18, .int .i64 t.mv.length), (19, .int .i64 s)]) (fun s W => s ≤ t.mv.length ∧ ∃ v1 v2, Holds w [RR fMv 38 48 v1 ((t.mv.take s).map dfRow), RR (fInt .i64) 39 3 v2 (t.go.take s), Blk b4 25 [v1, v2], Blk b2 25 [.slice none 0 0, .slice none 0 0], Blk b1 25 [.slice A t.mv.length ca, .slice B t.go.length cb]] W) (fun s => t.mv.length - s) 0 (sc rfl (sc rfl (sc rfl (sc rfl (sc rfl (sc rfl (sn _))))))) ⟨Nat.zero_le _, _, _, ((H12.rrNil fMv 38 48).rrNil (fInt .i64) 39 3).pm (by repeat constructor)⟩ ?_
   rintro i W0 ⟨hi, v1, v2, H⟩
   refine wc_seq ?_
   refine wc_region ?_
   refine wl_v rfl rfl rfl (v_lss rfl rfl) ?_
   refine wl_nil ?_
   refine wc_seq ?_
   refine wc_cond rfl (fun c1 => ?_) (fun c1 => ?_)
   ·have c1p := of_decide_eq_true c1
    have r1 := hk.ml (i := i) (by omega)
    have r2 := hk.gl (i := i) (by have := hrect.2.2.1; omega)
    have r3 := hrect.2.2.1
    refine wc_skip ?_
    refine wc_seq ?_
    refine wc_block ?_
    refine wc_seq ?_
    refine wc_region ?_
    refine wl_v rfl rfl rfl (v_move rfl) ?_
    refine wl_v rfl rfl rfl (v_idx Try.underlying22 sz38 hM.ad rfl rfl (by omega) (by omega)) ?_
    obtain ⟨B23, cp23, hc23, hl23, hr23⟩ := hM.atSlN (i := i) (by omega)
    refine wl_v rfl rfl rfl (v_load one38 rfl (H.cell (hc23))) ?_
    refine wl_v rfl rfl rfl (v_assign rfl) ?_
    refine wl_v rfl rfl rfl (v_assign rfl) ?_
    refine wl_nil ?_
    refine wc_seq ?_
    refine wc_region ?_
    refine wl_v rfl rfl rfl (v_move rfl) ?_
    refine wl_call en33 rfl rfl (usual_calls (hr23.below H.old) (by unfold maxLen; omega) (fun m hm => ((hk.mr _ (getD_mem (by omega))).2 m hm).2)) ?_
    rintro _ w13 ⟨rfl, Hc⟩
    have H14 := H.call Hc
    refine wl_alloc (cs := [.int .i64 0, .int .i64 0]) H14 rfl zv48 rfl ?_
    intro b7 w15 hb7 H16
    refine wl_store (vs := [_, _]) H16 (by repeat constructor) sz48 rfl rfl rfl rfl rfl (by (repeat constructor)) ?_
    intro w17 H18 hw17
    refine wl_nil ?_
    refine wc_seq ?_
    refine wc_region ?_
    refine wl_v rfl rfl rfl (v_move rfl) ?_
    refine wl_copy (f := fMv) (e := 48) H18 rfl Try.underlying38 info48 rfl (by decide) rfl rfl (hr23.below H18.old) (by omega) (by decide) ?_
    intro A9 c9 w19 H19 hs19
    refine wl_v rfl rfl rfl (v_assign rfl) ?_
    refine wl_nil ?_
    refine wc_seq ?_
    refine wc_seq ?_
    refine wc_region ?_
    refine wl_v rfl rfl rfl (v_move rfl) ?_
    refine wl_v rfl rfl rfl (v_len Try.underlying38 rfl) ?_
    refine wl_v rfl rfl rfl (v_move rfl) ?_
    refine wl_nil ?_
    refine wc_block ?_
    refine wc_loop (σ := Nat) (fun s => [(1, .pointer (some ⟨b1, 0, none⟩)), (2, .pointer (some ⟨b2, 0, none⟩)), (4, .pointer (some ⟨b4, 0, none⟩)), (5, .int .i64 i), (7, .pointer (some ⟨b7, 0, none⟩)), (8, .slice A9 (t.mv.getD i []).length c9), (17, .slice A t.mv.length ca), (18, .int .i64 t.mv.length), (19, .int .i64 i), (28, .slice A9 (t.mv.getD i []).length c9), (29, .int .i64 (t.mv.getD i []).length), (30, .int .i64 s)]) (fun s W => s ≤ (t.mv.getD i []).length ∧ Holds w [Blk b7 48 [.int .i64 (usualF (t.mv.getD i [])).d, .int .i64 (usualF (t.mv.getD i [])).n], Row fMv 48 (.slice A9 (t.mv.getD i []).length c9) (dfUpto (t.mv.getD i []) s), RR fMv 38 48 v1 ((t.mv.take i).map dfRow), RR (fInt .i64) 39 3 v2 (t.go.take i), Blk b4 25 [v1, v2], Blk b2 25 [.slice none 0 0, .slice none 0 0], Blk b1 25 [.slice A t.mv.length ca, .slice B t.go.length cb]] W) (fun s => (t.mv.getD i []).length - s) 0 (sc rfl (sc rfl (sc rfl (sc rfl (sc rfl (sc rfl (sc rfl (sc rfl (sc rfl (sc rfl (sc rfl (sc rfl (sn _))))))))))))) ⟨Nat.zero_le _, H19.pm (by repeat constructor)⟩ ?_
    rintro j W1 ⟨hj, H⟩
    refine wc_seq ?_
    refine wc_region ?_
    refine wl_v rfl rfl rfl (v_lss rfl rfl) ?_
    refine wl_nil ?_
    refine wc_seq ?_
    refine wc_cond rfl (fun c2 => ?_) (fun c2 => ?_)
    ·have c2p := of_decide_eq_true c2
     have hjl : j < (t.mv.getD i []).length := by omega
     have hdl := dfUpto_len (t.mv.getD i []) j
     have hrow := H.rrd (f := fMv) (e := 48) (A := A9) (xs := dfUpto (t.mv.getD i []) j) (by repeat constructor)
     have hrad : 0 < (t.mv.getD i []).length → A9 = some (adr A9) := fun h => hrow.ad (by omega)
     refine wc_skip ?_
     refine wc_seq ?_
     refine wc_block ?_
     refine wc_seq ?_
     refine wc_region ?_
     refine wl_v rfl rfl rfl (v_move rfl) ?_
     refine wl_v rfl rfl rfl (v_idx Try.underlying38 sz48 hrad rfl rfl (by omega) (by omega)) ?_
     refine wl_v rfl rfl rfl (v_loadN (cs := fMv.enc _) agg48 rfl rfl (fun k u hu => hrow.atN (i := j) (k := k) mv0 (by omega) hu)) ?_
     refine wl_alloc (cs := [.int .i64 0, .int .i64 0]) H rfl zv48 rfl ?_
     intro b10 w20 hb10 H21
     refine wl_v rfl rfl rfl (v_assign rfl) ?_
     refine wl_store (vs := [_, _]) H21 (by repeat constructor) sz48 rfl rfl rfl rfl rfl (by (repeat constructor)) ?_
     intro w22 H23 hw22
     refine wl_nil ?_
     refine wc_seq ?_
     refine wc_region ?_
     refine wl_v rfl rfl rfl (v_fb (o2 := 0) fa48_0 rfl rfl) ?_
     refine wl_v rfl rfl rfl (v_load one3 rfl (H23.at (by repeat constructor) rfl)) ?_
     refine wl_v rfl rfl rfl (v_eql rfl rfl) ?_
     refine wl_nil ?_
     refine wc_cond rfl (fun c3 => ?_) (fun c3 => ?_)
     ·have c3p := of_decide_eq_true c3
      refine wc_region ?_
      refine wl_v rfl rfl rfl (v_move rfl) ?_
      refine wl_v rfl rfl rfl (v_move rfl) ?_
      refine wl_v rfl rfl rfl (v_loadN agg48 rfl rfl (H23.ats (by repeat constructor))) ?_
      refine wl_v rfl rfl rfl (v_idx Try.underlying38 sz48 hrad rfl rfl (by omega) (by omega)) ?_
      refine wl_storeR (f := fMv) (xs := dfUpto (t.mv.getD i []) j) (i := (j : Int)) (x' := usualF (t.mv.getD i [])) H23 (by repeat constructor) sz48 rfl rfl rfl (by omega) (by omega) ?_
      intro w24 H24
      refine wl_nil ?_
      refine wc_region ?_
      refine wl_v rfl rfl rfl (v_addi rfl rfl (by omega)) ?_
      refine wl_v rfl rfl rfl (v_move rfl) ?_
      refine wl_nil ?_
      first
        | exact ⟨j + 1, (sc rfl (sc rfl (sc rfl (sc rfl (sc rfl (sc rfl (sc rfl (sc rfl (sc rfl (sc rfl (sc rfl (sc rfl (sn _))))))))))))), ⟨by omega, by rw [dfUpto_next hjl, dfm, if_pos (by first | exact c3p | (rw [← dfUpto_get hjl]; exact c3p))]; exact H24.pm (by repeat constructor)⟩, by omega⟩
        | exact ⟨j + 1, (sc rfl (sc rfl (sc rfl (sc rfl (sc rfl (sc rfl (sc rfl (sc rfl (sc rfl (sc rfl (sc rfl (sc rfl (sn _))))))))))))), ⟨by omega, by rw [dfUpto_keep hjl (by first | exact c3p | (rw [← dfUpto_get hjl]; exact c3p))]; exact H24.pm (by repeat constructor)⟩, by omega⟩
     ·have c3p := of_decide_eq_false c3
      refine wc_skip ?_
      refine wc_region ?_
      refine wl_v rfl rfl rfl (v_addi rfl rfl (by omega)) ?_
      refine wl_v rfl rfl rfl (v_move rfl) ?_
      refine wl_nil ?_
      first
        | exact ⟨j + 1, (sc rfl (sc rfl (sc rfl (sc rfl (sc rfl (sc rfl (sc rfl (sc rfl (sc rfl (sc rfl (sc rfl (sc rfl (sn _))))))))))))), ⟨by omega, by rw [dfUpto_next hjl, dfm, if_pos (by first | exact c3p | (rw [← dfUpto_get hjl]; exact c3p))]; exact H23.pm (by repeat constructor)⟩, by omega⟩
        | exact ⟨j + 1, (sc rfl (sc rfl (sc rfl (sc rfl (sc rfl (sc rfl (sc rfl (sc rfl (sc rfl (sc rfl (sc rfl (sc rfl (sn _))))))))))))), ⟨by omega, by rw [dfUpto_keep hjl (by first | exact c3p | (rw [← dfUpto_get hjl]; exact c3p))]; exact H23.pm (by repeat constructor)⟩, by omega⟩
    ·have c2p := of_decide_eq_false c2
     rw [dfUpto_all c2p] at H
     refine wc_exit ?_
     refine wc_seq ?_
     refine wc_region ?_
     refine wl_v rfl rfl rfl (v_fb (o2 := 0) fa25_0 rfl rfl) ?_
     refine wl_v rfl rfl rfl (v_load one22 rfl (H.at (by repeat constructor) rfl)) ?_
     refine wl_v rfl rfl rfl (v_move rfl) ?_
     refine wl_slit (v := .slice none 0 0) (z := [.slice none 0 0]) (cs := [.slice A9 (t.mv.getD i []).length c9]) (sz := 1) H rfl Try.underlying22 sz38 zv38 (by decide) (by decide) (by kernel_rfl) rfl (by repeat constructor) ?_
     intro b47 w25 hb47 H25 hs25
     refine wl_appRR (f := fMv) (e := 38) (e2 := 48) (u := .slice A9 (t.mv.getD i []).length c9) (xs := dfRow (t.mv.getD i [])) (xss := (t.mv.take i).map dfRow) H25 (by repeat constructor) (by repeat constructor) (H25.at (by repeat constructor) rfl) rfl Try.underlying22 info38 rfl rfl rfl (by simp only [List.length_map, List.length_take]; omega) (by decide) ?_
     intro A48 c48 w26 H26 hs26
     refine wl_v rfl rfl rfl (v_fb (o2 := 0) fa25_0 rfl rfl) ?_
     refine wl_store (vs := [_]) H26 (by repeat constructor) sz22 rfl rfl rfl rfl rfl (by (repeat constructor)) ?_
     intro w27 H28 hw27
     refine wl_nil ?_
     refine wc_held 7 10 (fun W => Holds w [Blk b4 25 [.slice A48 ((t.mv.take i).map dfRow ++ [dfRow (t.mv.getD i [])]).length c48, v2], Blk b1 25 [.slice A t.mv.length ca, .slice B t.go.length cb]] W) mixed (by kernel_rfl) (fun _ _ _ h => h) ?_
     have Hd := H28.drew
     refine wh_v rfl (Hd.pm (by repeat constructor)) rfl rfl rfl (fun W HW => v_fb (o2 := 1) fa25_1 rfl rfl) ?_
     refine wh_v rfl (Hd.pm (by repeat constructor)) rfl rfl rfl (fun W HW => v_load one23 rfl (HW.at (by repeat constructor) rfl)) ?_
     refine wh_v rfl (Hd.pm (by repeat constructor)) rfl rfl rfl (fun W HW => v_fb (o2 := 1) fa25_1 rfl rfl) ?_
     refine wh_v rfl (Hd.pm (by repeat constructor)) rfl rfl rfl (fun W HW => v_load one23 rfl (HW.at (by repeat constructor) rfl)) ?_
     refine wh_v rfl (Hd.pm (by repeat constructor)) rfl rfl rfl (fun W HW => v_move rfl) ?_
     refine wh_v rfl (Hd.pm (by repeat constructor)) rfl rfl rfl (fun W HW => v_idx Try.underlying23 sz39 hG.ad rfl rfl (by omega) (by omega)) ?_
     obtain ⟨B55, cp55, hc55, hl55, hr55⟩ := hG.atSlN (i := i) (by omega)
     refine wh_v rfl (Hd.pm (by repeat constructor)) rfl rfl rfl (fun W HW => v_load one39 rfl (HW.cell (hc55))) ?_
     refine wh_t rfl ?_
     refine wl_copy (f := fInt .i64) (e := 3) Hd rfl Try.underlying39 info3 rfl (by decide) rfl rfl (hr55.below Hd.old) (by omega) (by decide) ?_
     intro A57 c57 w29 H29 hs29
     refine wl_nil (tn ⟨fun hlt => H29.pm (by repeat constructor), ?_⟩)
     refine wh_t rfl ?_
     refine wl_slit (v := .slice none 0 0) (z := [.slice none 0 0]) (cs := [.slice A57 (t.go.getD i []).length c57]) (sz := 1) H29 rfl Try.underlying23 sz39 zv39 (by decide) (by decide) (by kernel_rfl) rfl (by repeat constructor) ?_
     intro b58 w30 hb58 H30 hs30
     refine wl_nil (tn ⟨fun hlt => H30.pm (by repeat constructor), ?_⟩)
     refine wh_t rfl ?_
     refine wl_appRR (f := fInt .i64) (e := 39) (e2 := 3) (u := .slice A57 (t.go.getD i []).length c57) (xs := t.go.getD i []) (xss := t.go.take i) H30 (by repeat constructor) (by repeat constructor) (H30.at (by repeat constructor) rfl) rfl Try.underlying23 info39 rfl rfl rfl (by simp only [List.length_take]; omega) (by decide) ?_
     intro A59 c59 w31 H31 hs31
     refine wl_nil (tn ⟨fun hlt => H31.pm (by repeat constructor), ?_⟩)
     refine wh_t rfl ?_
     refine wl_v rfl rfl rfl (v_fb (o2 := 1) fa25_1 rfl rfl) ?_
     refine wl_nil (tn ⟨fun hlt => absurd hlt (by decide), ?_⟩)
     refine wh_t rfl ?_
     refine wl_store (vs := [_]) H31 (by repeat constructor) sz23 rfl rfl rfl rfl rfl (by (repeat constructor)) ?_
     intro w32 H33 hw32
     refine wl_nil (tn ⟨fun hlt => absurd hlt (by decide), ?_⟩)
     refine wh_nil ?_
     refine wc_region ?_
     refine wl_v rfl rfl rfl (v_addi rfl rfl (by omega)) ?_
     refine wl_v rfl rfl rfl (v_move rfl) ?_
     refine wl_nil ?_
     have e1 := map_take_succ (xs := t.mv) [] dfRow (i := i) (by omega)
     have e2 := take_succ' (xs := t.go) [] (i := i) (by omega)
     rw [← e1, ← e2] at H33
     exact ⟨i + 1, (sc rfl (sc rfl (sc rfl (sc rfl (sc rfl (sc rfl (sn _))))))), ⟨by omega, _, _, H33.pm (by repeat constructor)⟩, by omega⟩
   ·have c1p := of_decide_eq_false c1
    have r3 := hrect.2.2.1
    rw [take_all c1p, take_all (xs := t.go) (by omega)] at H
    obtain ⟨A1, k1, rfl, _⟩ := H.rr (f := fMv) (e := 38) (e2 := 48) (v := v1) (xss := t.mv.map dfRow) (by repeat constructor)
    obtain ⟨A2, k2, rfl, _⟩ := H.rr (f := fInt .i64) (e := 39) (e2 := 3) (v := v2) (xss := t.go) (by repeat constructor)
    refine wc_exit ?_
    refine wc_seq ?_
    refine wc_region ?_
    refine wl_v rfl rfl rfl (v_loadN agg25 rfl rfl (H.ats (by repeat constructor))) ?_
    refine wl_store (vs := [_, _]) H (by repeat constructor) sz25 rfl rfl rfl rfl rfl (by (repeat constructor)) ?_
    intro w34 H35 hw34
    refine wl_v rfl rfl rfl (v_assign rfl) ?_
    refine wl_nil ?_
    refine wc_ret ?_
    first
      | exact ⟨_, resc2 rfl rfl (run_loadVarN agg25 rfl (H35.ats (by repeat constructor))) rfl, _, _, by rw [(dfAns_t c0p).2], by rw [(dfAns_t c0p).1]; exact H35.pm (by repeat constructor)⟩
      | exact ⟨_, resc2 rfl rfl (run_loadVarN agg25 rfl (H35.ats (by repeat constructor))) rfl, _, _, by rw [(dfAns_f c0p).2], by rw [(dfAns_f c0p).1]; exact ((H35.rrNil fMv 38 48).rrNil (fInt .i64) 39 3).pm (by repeat constructor)⟩
end Go.Proofs.Ytkpehkadammppaa.DfltW

/-! How table.laid lays rows. -/
namespace Go.Proofs.Ytkpehkadammppaa.LaidW
open Go Go.RowKit Go.Proofs.YtkpehkadammppaaFx Go.Proofs.Ytkpehkadammppaa.Free
theorem en56 : Enters Try.prog 56 := enters Try.func56 (by kernel_rfl) rfl
theorem en58 : Enters Try.prog 58 := enters Try.func58 (by kernel_rfl) rfl
theorem info3 : (Try.prog.info? 3).map (fun i => (i.zero, i.size, i.bytes)) = some (some (.int .i64 0), 1, 8) := by kernel_rfl
theorem one23 : One Try.prog 23 := one_of Try.underlying23 rfl (by kernel_rfl)
theorem one3 : One Try.prog 3 := one_of Try.underlying3 rfl (by kernel_rfl)
theorem one39 : One Try.prog 39 := one_of Try.underlying39 rfl (by kernel_rfl)
theorem sz3 : ∀ W, (sizeOf 3).run Try.prog W = .ok 1 W := size_of (by kernel_rfl)
theorem sz39 : ∀ W, (sizeOf 39).run Try.prog W = .ok 1 W := size_of (by kernel_rfl)
theorem zv3 : ∀ W, (zeroValue 3).run Try.prog W = .ok (.int .i64 0) W := zero_of (by kernel_rfl)
theorem zv39 : ∀ W, (zeroValue 39).run Try.prog W = .ok (.slice none 0 0) W := zero_of (by kernel_rfl)

set_option maxRecDepth 100000 in
theorem laid_calls {A : Option Addr} {ca : Nat} {rows : List (List Int)} {least : Int} {w : World} {M : Nat} (ord : List Int) (hR : Rd (kInt .i64).sl w A rows) (hM : ∀ r ∈ rows, ∀ k ∈ r, 0 ≤ k ∧ k < M) (hW : ∀ r ∈ rows, r.length ≤ 1099511627776) (hn : rows.length * M ≤ 1099511627776) (hn2 : rows.length ≤ 1099511627776) (hM2 : M ≤ 1099511627776) (hl : least ≤ 1099511627776)
    (hol : ord.length = rows.length) (hord : ∀ x ∈ ord, 0 ≤ x ∧ x < rows.length)
    (hsort : ∀ (W : World) (A15 : Option Addr) (b2 b6 : Nat), Holds w [Row (fInt .i64) 3 (.slice A15 rows.length rows.length) (iota rows.length), Blk b6 39 [.slice A15 rows.length rows.length], Blk b2 23 [.slice A rows.length ca]] W →
      Calls Try.prog 56 #[.iface 39 (.slice A15 rows.length rows.length), .func (.func 57) #[] #[.pointer (some ⟨b2, 0, none⟩), .pointer (some ⟨b6, 0, none⟩)]] W fun e w' => ∃ v, e = .returned v ∧ v = .tuple #[] ∧ Holds w [Row (fInt .i64) 3 (.slice A15 rows.length rows.length) ord, Blk b6 39 [.slice A15 rows.length rows.length], Blk b2 23 [.slice A rows.length ca]] w') :
    Calls Try.prog 41 #[.slice A rows.length ca, .int .i64 least] w fun e w' => ∃ v, e = .returned v ∧ ∃ A1 c1 A2 c2, v = .tuple #[.slice A1 (laidF rows ord least).1.length c1, .slice A2 (laidF rows ord least).2.length c2] ∧ Holds w [Row (fInt .i64) 3 (.slice A1 (laidF rows ord least).1.length c1) (laidF rows ord least).1, Row (fInt .i64) 3 (.slice A2 (laidF rows ord least).2.length c2) (laidF rows ord least).2] w' := by
  refine calls_of Try.func41 rfl Try.ntmps41 rfl ?_
  have H := Holds.start w
  refine wc_seq ?_
  refine wc_region ?_
  refine wl_box (cs := [_]) H rfl rfl rfl ?_
  intro b2 w1 hb2 H2
  refine wl_v rfl rfl rfl (v_assign rfl) ?_
  refine wl_v rfl rfl rfl (v_assign rfl) ?_
  refine wl_nil ?_
  refine wc_seq ?_
  refine wc_region ?_
  refine wl_v rfl rfl rfl (v_load one23 rfl (H2.at (by repeat constructor) rfl)) ?_
  refine wl_v rfl rfl rfl (v_len Try.underlying23 rfl) ?_
  refine wl_make (f := fInt .i64) (z' := 0) H2 rfl Try.underlying39 info3 rfl (by decide) rfl rfl (by omega) (by omega) (by decide) ?_
  intro A15 w3 H3 hs3
  rw [Int.toNat_natCast] at H3 ⊢
  refine wl_alloc (cs := [.slice none 0 0]) H3 rfl zv39 rfl ?_
  intro b6 w4 hb6 H5
  refine wl_store (vs := [_]) H5 (by repeat constructor) sz39 rfl rfl rfl rfl rfl (by (repeat constructor)) ?_
  intro w6 H7 hw6
  refine wl_nil ?_
  refine wc_seq ?_
  refine wc_seq ?_
  refine wc_region ?_
  refine wl_v rfl rfl rfl (v_load one39 rfl (H7.at (by repeat constructor) rfl)) ?_
  refine wl_v rfl rfl rfl (v_len Try.underlying39 rfl) ?_
  refine wl_v rfl rfl rfl (v_move rfl) ?_
  refine wl_nil ?_
  refine wc_block ?_
  refine wc_loop (σ := Nat) (fun s => [(1, .int .i64 least), (2, .pointer (some ⟨b2, 0, none⟩)), (4, .slice none 0 0), (5, .slice none 0 0), (6, .pointer (some ⟨b6, 0, none⟩)), (17, .int .i64 rows.length), (18, .int .i64 s)]) (fun s W => s ≤ rows.length ∧ Holds w [Row (fInt .i64) 3 (.slice A15 rows.length rows.length) (fillN rows.length s), Blk b6 39 [.slice A15 rows.length rows.length], Blk b2 23 [.slice A rows.length ca]] W) (fun s => rows.length - s) 0 (sc rfl (sc rfl (sc rfl (sc rfl (sc rfl (sc rfl (sc rfl (sn _)))))))) ⟨Nat.zero_le _, H7.pm (by repeat constructor)⟩ ?_
  rintro s W0 ⟨hs, H⟩
  refine wc_seq ?_
  refine wc_region ?_
  refine wl_v rfl rfl rfl (v_lss rfl rfl) ?_
  refine wl_nil ?_
  refine wc_seq ?_
  refine wc_cond rfl (fun c0 => ?_) (fun c0 => ?_)
  ·have c0p := of_decide_eq_true c0
   have hfl := fillN_len (n := rows.length) (s := s) (by omega)
   have hrow0 := H.rrd (f := fInt .i64) (e := 3) (A := A15) (xs := fillN rows.length s) (by repeat constructor)
   have hrad0 : 0 < rows.length → A15 = some (adr A15) := fun h => hrow0.ad (by omega)
   refine wc_skip ?_
   refine wc_seq ?_
   refine wc_block ?_
   refine wc_seq ?_
   refine wc_region ?_
   refine wl_v rfl rfl rfl (v_move rfl) ?_
   refine wl_v rfl rfl rfl (v_assign rfl) ?_
   refine wl_nil ?_
   refine wc_region ?_
   refine wl_v rfl rfl rfl (v_load one39 rfl (H.at (by repeat constructor) rfl)) ?_
   refine wl_v rfl rfl rfl (v_move rfl) ?_
   refine wl_v rfl rfl rfl (v_move rfl) ?_
   refine wl_v rfl rfl rfl (v_idx Try.underlying39 sz3 hrad0 rfl rfl (by omega) (by omega)) ?_
   refine wl_storeR (f := fInt .i64) (xs := fillN rows.length s) (i := (s : Int)) (x' := (s : Int)) H (by repeat constructor) sz3 rfl rfl rfl (by omega) (by omega) ?_
   intro w8 H8
   refine wl_nil ?_
   refine wc_region ?_
   refine wl_v rfl rfl rfl (v_addi rfl rfl (by omega)) ?_
   refine wl_v rfl rfl rfl (v_move rfl) ?_
   refine wl_nil ?_
   exact ⟨s + 1, (sc rfl (sc rfl (sc rfl (sc rfl (sc rfl (sc rfl (sc rfl (sn _)))))))), ⟨by omega, by rw [← fillN_next (by omega)]; exact H8.pm (by repeat constructor)⟩, by omega⟩
  ·have c0p := of_decide_eq_false c0
   rw [fillN_all hs c0p] at H
   refine wc_exit ?_
   refine wc_seq ?_
   refine wc_region ?_
   refine wl_v rfl rfl rfl (v_load one39 rfl (H.at (by repeat constructor) rfl)) ?_
   refine wl_v rfl rfl rfl (v_iface (i := 0) (by kernel_rfl) rfl) ?_
   refine wl_v rfl rfl rfl (v_fn rfl rfl) ?_
   refine wl_call en56 rfl rfl (hsort _ _ _ _ (H.pm (by repeat constructor))) ?_
   rintro _ w10 ⟨rfl, Hc⟩
   have H11 := Hc
   refine wl_nil ?_
   refine wc_seq ?_
   refine wc_region ?_
   refine wl_v rfl rfl rfl (v_load one23 rfl (H11.at (by repeat constructor) rfl)) ?_
   refine wl_v rfl rfl rfl (v_len Try.underlying23 rfl) ?_
   refine wl_make (f := fInt .i64) (z' := 0) H11 rfl Try.underlying39 info3 rfl (by decide) rfl rfl (by omega) (by omega) (by decide) ?_
   intro A32 w12 H12 hs12
   rw [Int.toNat_natCast] at H12 ⊢
   refine wl_v rfl rfl rfl (v_assign rfl) ?_
   refine wl_nil ?_
   refine wc_seq ?_
   refine wc_seq ?_
   refine wc_region ?_
   refine wl_v rfl rfl rfl (v_load one39 rfl (H12.at (by repeat constructor) rfl)) ?_
   refine wl_v rfl rfl rfl (v_len Try.underlying39 rfl) ?_
   refine wl_v rfl rfl rfl (v_move rfl) ?_
   refine wl_nil ?_
   refine wc_block ?_
   refine wc_loop (σ := Nat × Option Addr × Nat) (fun s => [(1, .int .i64 least), (2, .pointer (some ⟨b2, 0, none⟩)), (4, .slice A32 rows.length rows.length), (5, .slice s.2.1 ((stN rows ord s.1).2).length s.2.2), (33, .slice A15 rows.length rows.length), (34, .int .i64 rows.length), (35, .int .i64 s.1)]) (fun s W => s.1 ≤ rows.length ∧ (stN rows ord s.1).2.length ≤ s.1 * M ∧ Holds w [Row (fInt .i64) 3 (.slice s.2.1 ((stN rows ord s.1).2).length s.2.2) ((stN rows ord s.1).2), Row (fInt .i64) 3 (.slice A32 rows.length rows.length) ((stN rows ord s.1).1), Row (fInt .i64) 3 (.slice A15 rows.length rows.length) ord, Blk b6 39 [.slice A15 rows.length rows.length], Blk b2 23 [.slice A rows.length ca]] W) (fun s => rows.length - s.1) (0, none, 0) (sc rfl (sc rfl (sc rfl (sc rfl (sc rfl (sc rfl (sc rfl (sn _)))))))) ⟨Nat.zero_le _, Nat.zero_le _, (H12.nilrow 3 1).pm (by repeat constructor)⟩ ?_
   rintro ⟨i, A5, c5⟩ W1 ⟨hi, hcl, H⟩
   dsimp only at hi hcl H ⊢
   refine wc_seq ?_
   refine wc_region ?_
   refine wl_v rfl rfl rfl (v_lss rfl rfl) ?_
   refine wl_nil ?_
   refine wc_seq ?_
   refine wc_cond rfl (fun c1 => ?_) (fun c1 => ?_)
   ·have c1p := of_decide_eq_true c1
    have hrow1 := H.rrd (f := fInt .i64) (e := 3) (A := A15) (xs := ord) (by repeat constructor)
    have hrad1 : 0 < rows.length → A15 = some (adr A15) := fun h => hrow1.ad (by omega)
    have hS := hord (ord.getD i 0) (getD_mem (by omega))
    have hSn : (ord.getD i 0).toNat < rows.length := by omega
    have hrl := hW (rows.getD (ord.getD i 0).toNat []) (getD_mem hSn)
    have hbl0 := stN_len rows ord i
    have hiM : i * M ≤ rows.length * M := Nat.mul_le_mul_right _ hi
    have hk0 : ∀ k ∈ (rows.getD (ord.getD i 0).toNat []), 0 ≤ k := fun k hk => (hM _ (getD_mem hSn) k hk).1
    have hrowb := H.rrd (f := fInt .i64) (e := 3) (A := A32) (xs := (stN rows ord i).1) (by repeat constructor)
    have hradb : 0 < rows.length → A32 = some (adr A32) := fun h => hrowb.ad (by omega)
    refine wc_skip ?_
    refine wc_seq ?_
    refine wc_block ?_
    refine wc_seq ?_
    refine wc_region ?_
    refine wl_v rfl rfl rfl (v_idx Try.underlying39 sz3 hrad1 rfl rfl (by omega) (by omega)) ?_
    refine wl_v rfl rfl rfl (v_load one3 rfl (hrow1.at1N (i := i) (by omega))) ?_
    refine wl_v rfl rfl rfl (v_assign rfl) ?_
    refine wl_nil ?_
    refine wc_seq ?_
    refine wc_region ?_
    refine wl_v rfl rfl rfl (v_assign rfl) ?_
    refine wl_nil ?_
    refine wc_seq ?_
    refine wc_block ?_
    refine wc_loop (σ := Nat) (fun s => [(1, .int .i64 least), (2, .pointer (some ⟨b2, 0, none⟩)), (4, .slice A32 rows.length rows.length), (5, .slice A5 ((stN rows ord i).2).length c5), (33, .slice A15 rows.length rows.length), (34, .int .i64 rows.length), (35, .int .i64 i), (9, .int .i64 (ord.getD i 0)), (10, .int .i64 s)]) (fun s W => s ≤ (stN rows ord i).2.length ∧ (∀ b', b' < s → freeB (stN rows ord i).2 (rows.getD (ord.getD i 0).toNat []) (b' : Int) = false) ∧ Holds w [Row (fInt .i64) 3 (.slice A5 ((stN rows ord i).2).length c5) ((stN rows ord i).2), Row (fInt .i64) 3 (.slice A32 rows.length rows.length) ((stN rows ord i).1), Row (fInt .i64) 3 (.slice A15 rows.length rows.length) ord, Blk b6 39 [.slice A15 rows.length rows.length], Blk b2 23 [.slice A rows.length ca]] W) (fun s => (stN rows ord i).2.length + 1 - s) 0 (sc rfl (sc rfl (sc rfl (sc rfl (sc rfl (sc rfl (sc rfl (sc rfl (sc rfl (sn _)))))))))) ⟨Nat.zero_le _, upto_zero, H.pm (by repeat constructor)⟩ ?_
    rintro b W2 ⟨hb, hlow, H⟩
    refine wc_seq ?_
    refine wc_seq ?_
    refine wc_region ?_
    refine wl_v rfl rfl rfl (v_load one23 rfl (H.at (by repeat constructor) rfl)) ?_
    refine wl_v rfl rfl rfl (v_move rfl) ?_
    refine wl_v rfl rfl rfl (v_idx Try.underlying23 sz39 hR.ad rfl rfl (by omega) (by omega)) ?_
    obtain ⟨B42, cp42, hc42, hl42, hr42⟩ := hR.atSl (i := (ord.getD i 0)) (by omega) (by omega)
    refine wl_v rfl rfl rfl (v_load one39 rfl (H.cell (hc42))) ?_
    refine wl_v rfl rfl rfl (v_len Try.underlying39 rfl) ?_
    refine wl_v rfl rfl rfl (v_gtr rfl rfl) ?_
    refine wl_v rfl rfl rfl (v_move rfl) ?_
    refine wl_guard rfl rfl rfl (fun g45 => ?_) (fun g45 => ?_)
    ·have g45p := of_decide_eq_true g45
     refine wl_v rfl rfl rfl (v_move rfl) ?_
     refine wl_on' rfl rfl g45 ?_
     refine wl_v rfl rfl rfl (v_load one23 rfl (H.at (by repeat constructor) rfl)) ?_
     refine wl_on' rfl rfl g45 ?_
     refine wl_v rfl rfl rfl (v_move rfl) ?_
     refine wl_on' rfl rfl g45 ?_
     refine wl_v rfl rfl rfl (v_idx Try.underlying23 sz39 hR.ad rfl rfl (by omega) (by omega)) ?_
     refine wl_on' rfl rfl g45 ?_
     obtain ⟨B50, cp50, hc50, hl50, hr50⟩ := hR.atSl (i := (ord.getD i 0)) (by omega) (by omega)
     refine wl_v rfl rfl rfl (v_load one39 rfl (H.cell (hc50))) ?_
     refine wl_on' rfl rfl g45 ?_
     refine wl_v rfl rfl rfl (v_move rfl) ?_
     refine wl_on' rfl rfl g45 ?_
     refine wl_call en58 rfl rfl (free_calls (H.rrd (f := fInt .i64) (A := A5) (xs := (stN rows ord i).2) (by repeat constructor)) (hr50.below H.old) (by unfold maxLen; omega) (by unfold maxLen; omega) (by omega) (fun k hk => by have := hM _ (getD_mem hSn) k hk; omega)) ?_
     rintro _ w13 ⟨rfl, Hc⟩
     have H14 := H.call Hc
     refine wl_on' rfl rfl g45 ?_
     refine wl_v rfl rfl rfl (v_not rfl) ?_
     refine wl_v rfl rfl rfl (v_pick_t rfl g45 rfl) ?_
     refine wl_nil ?_
     refine wc_cond rfl (fun c2 => ?_) (fun c2 => ?_)
     ·have c2p := of_n_t c2
      refine wc_skip ?_
      refine wc_block ?_
      refine wc_region ?_
      refine wl_v rfl rfl rfl (v_move rfl) ?_
      refine wl_v rfl rfl rfl (v_addi rfl rfl (by omega)) ?_
      refine wl_v rfl rfl rfl (v_assign rfl) ?_
      refine wl_nil ?_
      have hbl : (b : Int) < (stN rows ord i).2.length := by
        rcases (by omega : (b : Int) < (stN rows ord i).2.length ∨ ((stN rows ord i).2.length : Int) ≤ b) with h | h
        · exact h
        · rw [freeB_end h hk0] at c2p; exact absurd c2p (by simp)
      exact ⟨b + 1, (sc rfl (sc rfl (sc rfl (sc rfl (sc rfl (sc rfl (sc rfl (sc rfl (sc rfl (sn _)))))))))), ⟨by omega, upto_succ hlow c2p, H14.pm (by repeat constructor)⟩, by omega⟩
     ·have c2p := of_n_f c2
      have hbf := firstFree_is hlow c2p hb
      refine wc_exit ?_
      refine wc_seq ?_
      refine wc_region ?_
      refine wl_v rfl rfl rfl (v_move rfl) ?_
      refine wl_v rfl rfl rfl (v_move rfl) ?_
      refine wl_v rfl rfl rfl (v_move rfl) ?_
      refine wl_v rfl rfl rfl (v_idx Try.underlying39 sz3 hradb rfl rfl (by omega) (by omega)) ?_
      refine wl_storeR (f := fInt .i64) (xs := (stN rows ord i).1) (i := (ord.getD i 0)) (x' := (b : Int)) H14 (by repeat constructor) sz3 rfl rfl rfl (by omega) (by omega) ?_
      intro w15 H15
      refine wl_nil ?_
      refine wc_seq ?_
      refine wc_region ?_
      refine wl_v rfl rfl rfl (v_load one23 rfl (H15.at (by repeat constructor) rfl)) ?_
      refine wl_v rfl rfl rfl (v_move rfl) ?_
      refine wl_v rfl rfl rfl (v_idx Try.underlying23 sz39 hR.ad rfl rfl (by omega) (by omega)) ?_
      obtain ⟨B64, cp64, hc64, hl64, hr64⟩ := hR.atSl (i := (ord.getD i 0)) (by omega) (by omega)
      refine wl_v rfl rfl rfl (v_load one39 rfl (H15.cell (hc64))) ?_
      refine wl_v rfl rfl rfl (v_len Try.underlying39 rfl) ?_
      refine wl_v rfl rfl rfl (v_move rfl) ?_
      refine wl_nil ?_
      refine wc_block ?_
      refine wc_loop (σ := Nat × Option Addr × Nat) (fun s => [(1, .int .i64 least), (2, .pointer (some ⟨b2, 0, none⟩)), (4, .slice A32 rows.length rows.length), (5, .slice s.2.1 (putsN (stN rows ord i).2 (rows.getD (ord.getD i 0).toNat []) b (ord.getD i 0) s.1).length s.2.2), (33, .slice A15 rows.length rows.length), (34, .int .i64 rows.length), (35, .int .i64 i), (9, .int .i64 (ord.getD i 0)), (10, .int .i64 b), (64, .slice B64 (rows.getD (ord.getD i 0).toNat []).length cp64), (65, .int .i64 (rows.getD (ord.getD i 0).toNat []).length), (66, .int .i64 s.1)]) (fun s W => s.1 ≤ (rows.getD (ord.getD i 0).toNat []).length ∧ (putsN (stN rows ord i).2 (rows.getD (ord.getD i 0).toNat []) b (ord.getD i 0) s.1).length ≤ (stN rows ord i).2.length + M ∧ Holds w [Row (fInt .i64) 3 (.slice s.2.1 (putsN (stN rows ord i).2 (rows.getD (ord.getD i 0).toNat []) b (ord.getD i 0) s.1).length s.2.2) (putsN (stN rows ord i).2 (rows.getD (ord.getD i 0).toNat []) b (ord.getD i 0) s.1), Row (fInt .i64) 3 (.slice A32 rows.length rows.length) ((stN rows ord i).1.set (ord.getD i 0).toNat b), Row (fInt .i64) 3 (.slice A15 rows.length rows.length) ord, Blk b6 39 [.slice A15 rows.length rows.length], Blk b2 23 [.slice A rows.length ca]] W) (fun s => (rows.getD (ord.getD i 0).toNat []).length - s.1) (0, A5, c5) (sc rfl (sc rfl (sc rfl (sc rfl (sc rfl (sc rfl (sc rfl (sc rfl (sc rfl (sc rfl (sc rfl (sc rfl (sn _))))))))))))) ⟨Nat.zero_le _, Nat.le_add_right _ _, H15.pm (by repeat constructor)⟩ ?_
      rintro ⟨j, A6, c6⟩ W3 ⟨hj, hpl, H⟩
      dsimp only at hj hpl H ⊢
      refine wc_seq ?_
      refine wc_region ?_
      refine wl_v rfl rfl rfl (v_lss rfl rfl) ?_
      refine wl_nil ?_
      refine wc_seq ?_
      refine wc_cond rfl (fun c3 => ?_) (fun c3 => ?_)
      ·have c3p := of_decide_eq_true c3
       have hkj := hM _ (getD_mem hSn) ((rows.getD (ord.getD i 0).toNat []).getD j 0) (getD_mem (by omega))
       refine wc_skip ?_
       refine wc_seq ?_
       refine wc_block ?_
       refine wc_seq ?_
       refine wc_region ?_
       refine wl_v rfl rfl rfl (v_idx Try.underlying39 sz3 hr64.ad rfl rfl (by omega) (by omega)) ?_
       refine wl_v rfl rfl rfl (v_load one3 rfl (H.cell (hr64.at1N (i := j) (by omega)))) ?_
       refine wl_v rfl rfl rfl (v_assign rfl) ?_
       refine wl_nil ?_
       refine wc_seq ?_
       refine wc_block ?_
       refine wc_loop (σ := Nat × Option Addr × Nat) (fun s => [(1, .int .i64 least), (2, .pointer (some ⟨b2, 0, none⟩)), (4, .slice A32 rows.length rows.length), (5, .slice s.2.1 ((padN (putsN (stN rows ord i).2 (rows.getD (ord.getD i 0).toNat []) b (ord.getD i 0) j) s.1)).length s.2.2), (33, .slice A15 rows.length rows.length), (34, .int .i64 rows.length), (35, .int .i64 i), (9, .int .i64 (ord.getD i 0)), (10, .int .i64 b), (12, .int .i64 ((rows.getD (ord.getD i 0).toNat []).getD j 0)), (64, .slice B64 (rows.getD (ord.getD i 0).toNat []).length cp64), (65, .int .i64 (rows.getD (ord.getD i 0).toNat []).length), (66, .int .i64 j)]) (fun s W => (s.1 = 0 ∨ (putsN (stN rows ord i).2 (rows.getD (ord.getD i 0).toNat []) b (ord.getD i 0) j).length + s.1 ≤ ((b : Int) + (rows.getD (ord.getD i 0).toNat []).getD j 0).toNat + 1) ∧ Holds w [Row (fInt .i64) 3 (.slice s.2.1 ((padN (putsN (stN rows ord i).2 (rows.getD (ord.getD i 0).toNat []) b (ord.getD i 0) j) s.1)).length s.2.2) ((padN (putsN (stN rows ord i).2 (rows.getD (ord.getD i 0).toNat []) b (ord.getD i 0) j) s.1)), Row (fInt .i64) 3 (.slice A32 rows.length rows.length) ((stN rows ord i).1.set (ord.getD i 0).toNat b), Row (fInt .i64) 3 (.slice A15 rows.length rows.length) ord, Blk b6 39 [.slice A15 rows.length rows.length], Blk b2 23 [.slice A rows.length ca]] W) (fun s => ((b : Int) + (rows.getD (ord.getD i 0).toNat []).getD j 0).toNat + 1 - ((putsN (stN rows ord i).2 (rows.getD (ord.getD i 0).toNat []) b (ord.getD i 0) j).length + s.1)) (0, A6, c6) (sc rfl (sc rfl (sc rfl (sc rfl (sc rfl (sc rfl (sc rfl (sc rfl (sc rfl (sc rfl (sc rfl (sc rfl (sc rfl (sn _)))))))))))))) ⟨.inl rfl, H.pm (by repeat constructor)⟩ ?_
       rintro ⟨q, A7, c7⟩ W4 ⟨hq, H⟩
       dsimp only at hq H ⊢
       have hql : ((padN (putsN (stN rows ord i).2 (rows.getD (ord.getD i 0).toNat []) b (ord.getD i 0) j) q)).length = (putsN (stN rows ord i).2 (rows.getD (ord.getD i 0).toNat []) b (ord.getD i 0) j).length + q := padN_len _ _
       refine wc_seq ?_
       refine wc_seq ?_
       refine wc_region ?_
       refine wl_v rfl rfl rfl (v_move rfl) ?_
       refine wl_v rfl rfl rfl (v_len Try.underlying39 rfl) ?_
       refine wl_v rfl rfl rfl (v_move rfl) ?_
       refine wl_v rfl rfl rfl (v_move rfl) ?_
       refine wl_v rfl rfl rfl (v_addi rfl rfl (by omega)) ?_
       refine wl_v rfl rfl rfl (v_leq rfl rfl) ?_
       refine wl_nil ?_
       refine wc_cond rfl (fun c4 => ?_) (fun c4 => ?_)
       ·have c4p := of_decide_eq_true c4
        refine wc_skip ?_
        refine wc_block ?_
        refine wc_region ?_
        refine wl_v rfl rfl rfl (v_move rfl) ?_
        refine wl_slit (v := .int .i64 0) (z := [.int .i64 0]) (cs := [.int .i64 (-1)]) (sz := 1) H rfl Try.underlying39 sz3 zv3 (by decide) (by decide) (by kernel_rfl) rfl (by repeat constructor) ?_
        intro b77 w16 hb77 H16 hs16
        refine wl_app1 (f := fInt .i64) (xs := (padN (putsN (stN rows ord i).2 (rows.getD (ord.getD i 0).toNat []) b (ord.getD i 0) j) q)) (y' := -1) H16 (fun v' => (by repeat constructor)) (by repeat constructor) rfl Try.underlying39 info3 rfl (by decide) rfl rfl rfl (by omega) (by decide) ?_
        intro A78 c78 w17 H17 hs17
        refine wl_v rfl rfl rfl (v_assign rfl) ?_
        refine wl_nil ?_
        exact ⟨(q + 1, A78, c78), (sc rfl (sc rfl (sc rfl (sc rfl (sc rfl (sc rfl (sc rfl (sc rfl (sc rfl (sc rfl (sc rfl (sc rfl (sc rfl (sn _)))))))))))))), ⟨.inr (by dsimp only; omega), H17.pm (by repeat constructor)⟩, by dsimp only; omega⟩
       ·have c4p := of_decide_eq_false c4
        have hrowc := H.rrd (f := fInt .i64) (e := 3) (A := A7) (xs := (padN (putsN (stN rows ord i).2 (rows.getD (ord.getD i 0).toNat []) b (ord.getD i 0) j) q)) (by repeat constructor)
        have hradc : 0 < ((padN (putsN (stN rows ord i).2 (rows.getD (ord.getD i 0).toNat []) b (ord.getD i 0) j) q)).length → A7 = some (adr A7) := fun h => hrowc.ad h
        refine wc_exit ?_
        refine wc_region ?_
        refine wl_v rfl rfl rfl (v_move rfl) ?_
        refine wl_v rfl rfl rfl (v_move rfl) ?_
        refine wl_v rfl rfl rfl (v_move rfl) ?_
        refine wl_v rfl rfl rfl (v_addi rfl rfl (by omega)) ?_
        refine wl_v rfl rfl rfl (v_move rfl) ?_
        refine wl_v rfl rfl rfl (v_idx Try.underlying39 sz3 hradc rfl rfl (by omega) (by omega)) ?_
        refine wl_storeR (f := fInt .i64) (xs := (padN (putsN (stN rows ord i).2 (rows.getD (ord.getD i 0).toNat []) b (ord.getD i 0) j) q)) (i := (b : Int) + (rows.getD (ord.getD i 0).toNat []).getD j 0) (x' := (ord.getD i 0)) H (by repeat constructor) sz3 rfl rfl rfl (by omega) (by omega) ?_
        intro w18 H18
        refine wl_nil ?_
        refine wc_region ?_
        refine wl_v rfl rfl rfl (v_addi rfl rfl (by omega)) ?_
        refine wl_v rfl rfl rfl (v_move rfl) ?_
        refine wl_nil ?_
        have hp := pad_is (C := (putsN (stN rows ord i).2 (rows.getD (ord.getD i 0).toNat []) b (ord.getD i 0) j)) (q := q) (n := ((b : Int) + (rows.getD (ord.getD i 0).toNat []).getD j 0).toNat + 1) (by omega) (by omega)
        have hpe : (padN (putsN (stN rows ord i).2 (rows.getD (ord.getD i 0).toNat []) b (ord.getD i 0) j) q).set ((b : Int) + (rows.getD (ord.getD i 0).toNat []).getD j 0).toNat (ord.getD i 0) = putsN (stN rows ord i).2 (rows.getD (ord.getD i 0).toNat []) b (ord.getD i 0) (j + 1) := by rw [putsN_succ (by omega), putAt, hp]
        have hll : (putsN (stN rows ord i).2 (rows.getD (ord.getD i 0).toNat []) b (ord.getD i 0) (j + 1)).length = ((padN (putsN (stN rows ord i).2 (rows.getD (ord.getD i 0).toNat []) b (ord.getD i 0) j) q)).length := by rw [← hpe, List.length_set]
        rw [← len_set (padN (putsN (stN rows ord i).2 (rows.getD (ord.getD i 0).toNat []) b (ord.getD i 0) j) q) ((b : Int) + (rows.getD (ord.getD i 0).toNat []).getD j 0).toNat (ord.getD i 0), hpe] at H18
        exact ⟨(j + 1, A7, c7), by rw [hll]; exact (sc rfl (sc rfl (sc rfl (sc rfl (sc rfl (sc rfl (sc rfl (sc rfl (sc rfl (sc rfl (sc rfl (sc rfl (sn _))))))))))))), ⟨by dsimp only; omega, by dsimp only; rw [hll]; omega, H18.pm (by repeat constructor)⟩, by dsimp only; omega⟩
      ·have c3p := of_decide_eq_false c3
       refine wc_exit ?_
       refine wc_region ?_
       refine wl_v rfl rfl rfl (v_addi rfl rfl (by omega)) ?_
       refine wl_v rfl rfl rfl (v_move rfl) ?_
       refine wl_nil ?_
       exact ⟨(i + 1, A6, c6), by rw [stN_succ (by omega) hbf]; rw [take_done c3p]; exact (sc rfl (sc rfl (sc rfl (sc rfl (sc rfl (sc rfl (sc rfl (sn _)))))))), ⟨by dsimp only; omega, by rw [stN_succ (by omega) hbf]; dsimp only; rw [take_done c3p, Nat.succ_mul]; omega, by rw [stN_succ (by omega) hbf]; rw [take_done c3p]; exact H.pm (by repeat constructor)⟩, by dsimp only; omega⟩
    ·have g45p := of_decide_eq_false g45
     have hbf := firstFree_is hlow (by rw [List.eq_nil_of_length_eq_zero (l := (rows.getD (ord.getD i 0).toNat [])) (by omega)]; rfl) hb
     refine wl_off rfl rfl g45 rfl ?_
     refine wl_off rfl rfl g45 rfl ?_
     refine wl_off rfl rfl g45 rfl ?_
     refine wl_off rfl rfl g45 rfl ?_
     refine wl_off rfl rfl g45 rfl ?_
     refine wl_off rfl rfl g45 rfl ?_
     refine wl_off rfl rfl g45 rfl ?_
     refine wl_v rfl rfl rfl (v_pick_f rfl g45 rfl) ?_
     refine wl_nil ?_
     refine wc_cond_f rfl ?_
     refine wc_exit ?_
     refine wc_seq ?_
     refine wc_region ?_
     refine wl_v rfl rfl rfl (v_move rfl) ?_
     refine wl_v rfl rfl rfl (v_move rfl) ?_
     refine wl_v rfl rfl rfl (v_move rfl) ?_
     refine wl_v rfl rfl rfl (v_idx Try.underlying39 sz3 hradb rfl rfl (by omega) (by omega)) ?_
     refine wl_storeR (f := fInt .i64) (xs := (stN rows ord i).1) (i := (ord.getD i 0)) (x' := (b : Int)) H (by repeat constructor) sz3 rfl rfl rfl (by omega) (by omega) ?_
     intro w19 H19
     refine wl_nil ?_
     refine wc_seq ?_
     refine wc_region ?_
     refine wl_v rfl rfl rfl (v_load one23 rfl (H19.at (by repeat constructor) rfl)) ?_
     refine wl_v rfl rfl rfl (v_move rfl) ?_
     refine wl_v rfl rfl rfl (v_idx Try.underlying23 sz39 hR.ad rfl rfl (by omega) (by omega)) ?_
     obtain ⟨B64, cp64, hc64, hl64, hr64⟩ := hR.atSl (i := (ord.getD i 0)) (by omega) (by omega)
     refine wl_v rfl rfl rfl (v_load one39 rfl (H19.cell (hc64))) ?_
     refine wl_v rfl rfl rfl (v_len Try.underlying39 rfl) ?_
     refine wl_v rfl rfl rfl (v_move rfl) ?_
     refine wl_nil ?_
     refine wc_block ?_
     refine wc_loop (σ := Nat × Option Addr × Nat) (fun s => [(1, .int .i64 least), (2, .pointer (some ⟨b2, 0, none⟩)), (4, .slice A32 rows.length rows.length), (5, .slice s.2.1 (putsN (stN rows ord i).2 (rows.getD (ord.getD i 0).toNat []) b (ord.getD i 0) s.1).length s.2.2), (33, .slice A15 rows.length rows.length), (34, .int .i64 rows.length), (35, .int .i64 i), (9, .int .i64 (ord.getD i 0)), (10, .int .i64 b), (64, .slice B64 (rows.getD (ord.getD i 0).toNat []).length cp64), (65, .int .i64 (rows.getD (ord.getD i 0).toNat []).length), (66, .int .i64 s.1)]) (fun s W => s.1 ≤ (rows.getD (ord.getD i 0).toNat []).length ∧ (putsN (stN rows ord i).2 (rows.getD (ord.getD i 0).toNat []) b (ord.getD i 0) s.1).length ≤ (stN rows ord i).2.length + M ∧ Holds w [Row (fInt .i64) 3 (.slice s.2.1 (putsN (stN rows ord i).2 (rows.getD (ord.getD i 0).toNat []) b (ord.getD i 0) s.1).length s.2.2) (putsN (stN rows ord i).2 (rows.getD (ord.getD i 0).toNat []) b (ord.getD i 0) s.1), Row (fInt .i64) 3 (.slice A32 rows.length rows.length) ((stN rows ord i).1.set (ord.getD i 0).toNat b), Row (fInt .i64) 3 (.slice A15 rows.length rows.length) ord, Blk b6 39 [.slice A15 rows.length rows.length], Blk b2 23 [.slice A rows.length ca]] W) (fun s => (rows.getD (ord.getD i 0).toNat []).length - s.1) (0, A5, c5) (sc rfl (sc rfl (sc rfl (sc rfl (sc rfl (sc rfl (sc rfl (sc rfl (sc rfl (sc rfl (sc rfl (sc rfl (sn _))))))))))))) ⟨Nat.zero_le _, Nat.le_add_right _ _, H19.pm (by repeat constructor)⟩ ?_
     rintro ⟨j, A6, c6⟩ W3 ⟨hj, hpl, H⟩
     dsimp only at hj hpl H ⊢
     refine wc_seq ?_
     refine wc_region ?_
     refine wl_v rfl rfl rfl (v_lss rfl rfl) ?_
     refine wl_nil ?_
     refine wc_seq ?_
     refine wc_cond rfl (fun c3 => ?_) (fun c3 => ?_)
     ·have c3p := of_decide_eq_true c3
      have hkj := hM _ (getD_mem hSn) ((rows.getD (ord.getD i 0).toNat []).getD j 0) (getD_mem (by omega))
      refine wc_skip ?_
      refine wc_seq ?_
      refine wc_block ?_
      refine wc_seq ?_
      refine wc_region ?_
      refine wl_v rfl rfl rfl (v_idx Try.underlying39 sz3 hr64.ad rfl rfl (by omega) (by omega)) ?_
      refine wl_v rfl rfl rfl (v_load one3 rfl (H.cell (hr64.at1N (i := j) (by omega)))) ?_
      refine wl_v rfl rfl rfl (v_assign rfl) ?_
      refine wl_nil ?_
      refine wc_seq ?_
      refine wc_block ?_
      refine wc_loop (σ := Nat × Option Addr × Nat) (fun s => [(1, .int .i64 least), (2, .pointer (some ⟨b2, 0, none⟩)), (4, .slice A32 rows.length rows.length), (5, .slice s.2.1 ((padN (putsN (stN rows ord i).2 (rows.getD (ord.getD i 0).toNat []) b (ord.getD i 0) j) s.1)).length s.2.2), (33, .slice A15 rows.length rows.length), (34, .int .i64 rows.length), (35, .int .i64 i), (9, .int .i64 (ord.getD i 0)), (10, .int .i64 b), (12, .int .i64 ((rows.getD (ord.getD i 0).toNat []).getD j 0)), (64, .slice B64 (rows.getD (ord.getD i 0).toNat []).length cp64), (65, .int .i64 (rows.getD (ord.getD i 0).toNat []).length), (66, .int .i64 j)]) (fun s W => (s.1 = 0 ∨ (putsN (stN rows ord i).2 (rows.getD (ord.getD i 0).toNat []) b (ord.getD i 0) j).length + s.1 ≤ ((b : Int) + (rows.getD (ord.getD i 0).toNat []).getD j 0).toNat + 1) ∧ Holds w [Row (fInt .i64) 3 (.slice s.2.1 ((padN (putsN (stN rows ord i).2 (rows.getD (ord.getD i 0).toNat []) b (ord.getD i 0) j) s.1)).length s.2.2) ((padN (putsN (stN rows ord i).2 (rows.getD (ord.getD i 0).toNat []) b (ord.getD i 0) j) s.1)), Row (fInt .i64) 3 (.slice A32 rows.length rows.length) ((stN rows ord i).1.set (ord.getD i 0).toNat b), Row (fInt .i64) 3 (.slice A15 rows.length rows.length) ord, Blk b6 39 [.slice A15 rows.length rows.length], Blk b2 23 [.slice A rows.length ca]] W) (fun s => ((b : Int) + (rows.getD (ord.getD i 0).toNat []).getD j 0).toNat + 1 - ((putsN (stN rows ord i).2 (rows.getD (ord.getD i 0).toNat []) b (ord.getD i 0) j).length + s.1)) (0, A6, c6) (sc rfl (sc rfl (sc rfl (sc rfl (sc rfl (sc rfl (sc rfl (sc rfl (sc rfl (sc rfl (sc rfl (sc rfl (sc rfl (sn _)))))))))))))) ⟨.inl rfl, H.pm (by repeat constructor)⟩ ?_
      rintro ⟨q, A7, c7⟩ W4 ⟨hq, H⟩
      dsimp only at hq H ⊢
      have hql : ((padN (putsN (stN rows ord i).2 (rows.getD (ord.getD i 0).toNat []) b (ord.getD i 0) j) q)).length = (putsN (stN rows ord i).2 (rows.getD (ord.getD i 0).toNat []) b (ord.getD i 0) j).length + q := padN_len _ _
      refine wc_seq ?_
      refine wc_seq ?_
      refine wc_region ?_
      refine wl_v rfl rfl rfl (v_move rfl) ?_
      refine wl_v rfl rfl rfl (v_len Try.underlying39 rfl) ?_
      refine wl_v rfl rfl rfl (v_move rfl) ?_
      refine wl_v rfl rfl rfl (v_move rfl) ?_
      refine wl_v rfl rfl rfl (v_addi rfl rfl (by omega)) ?_
      refine wl_v rfl rfl rfl (v_leq rfl rfl) ?_
      refine wl_nil ?_
      refine wc_cond rfl (fun c4 => ?_) (fun c4 => ?_)
      ·have c4p := of_decide_eq_true c4
       refine wc_skip ?_
       refine wc_block ?_
       refine wc_region ?_
       refine wl_v rfl rfl rfl (v_move rfl) ?_
       refine wl_slit (v := .int .i64 0) (z := [.int .i64 0]) (cs := [.int .i64 (-1)]) (sz := 1) H rfl Try.underlying39 sz3 zv3 (by decide) (by decide) (by kernel_rfl) rfl (by repeat constructor) ?_
       intro b77 w20 hb77 H20 hs20
       refine wl_app1 (f := fInt .i64) (xs := (padN (putsN (stN rows ord i).2 (rows.getD (ord.getD i 0).toNat []) b (ord.getD i 0) j) q)) (y' := -1) H20 (fun v' => (by repeat constructor)) (by repeat constructor) rfl Try.underlying39 info3 rfl (by decide) rfl rfl rfl (by omega) (by decide) ?_
       intro A78 c78 w21 H21 hs21
       refine wl_v rfl rfl rfl (v_assign rfl) ?_
       refine wl_nil ?_
       exact ⟨(q + 1, A78, c78), (sc rfl (sc rfl (sc rfl (sc rfl (sc rfl (sc rfl (sc rfl (sc rfl (sc rfl (sc rfl (sc rfl (sc rfl (sc rfl (sn _)))))))))))))), ⟨.inr (by dsimp only; omega), H21.pm (by repeat constructor)⟩, by dsimp only; omega⟩
      ·have c4p := of_decide_eq_false c4
       have hrowc := H.rrd (f := fInt .i64) (e := 3) (A := A7) (xs := (padN (putsN (stN rows ord i).2 (rows.getD (ord.getD i 0).toNat []) b (ord.getD i 0) j) q)) (by repeat constructor)
       have hradc : 0 < ((padN (putsN (stN rows ord i).2 (rows.getD (ord.getD i 0).toNat []) b (ord.getD i 0) j) q)).length → A7 = some (adr A7) := fun h => hrowc.ad h
       refine wc_exit ?_
       refine wc_region ?_
       refine wl_v rfl rfl rfl (v_move rfl) ?_
       refine wl_v rfl rfl rfl (v_move rfl) ?_
       refine wl_v rfl rfl rfl (v_move rfl) ?_
       refine wl_v rfl rfl rfl (v_addi rfl rfl (by omega)) ?_
       refine wl_v rfl rfl rfl (v_move rfl) ?_
       refine wl_v rfl rfl rfl (v_idx Try.underlying39 sz3 hradc rfl rfl (by omega) (by omega)) ?_
       refine wl_storeR (f := fInt .i64) (xs := (padN (putsN (stN rows ord i).2 (rows.getD (ord.getD i 0).toNat []) b (ord.getD i 0) j) q)) (i := (b : Int) + (rows.getD (ord.getD i 0).toNat []).getD j 0) (x' := (ord.getD i 0)) H (by repeat constructor) sz3 rfl rfl rfl (by omega) (by omega) ?_
       intro w22 H22
       refine wl_nil ?_
       refine wc_region ?_
       refine wl_v rfl rfl rfl (v_addi rfl rfl (by omega)) ?_
       refine wl_v rfl rfl rfl (v_move rfl) ?_
       refine wl_nil ?_
       have hp := pad_is (C := (putsN (stN rows ord i).2 (rows.getD (ord.getD i 0).toNat []) b (ord.getD i 0) j)) (q := q) (n := ((b : Int) + (rows.getD (ord.getD i 0).toNat []).getD j 0).toNat + 1) (by omega) (by omega)
       have hpe : (padN (putsN (stN rows ord i).2 (rows.getD (ord.getD i 0).toNat []) b (ord.getD i 0) j) q).set ((b : Int) + (rows.getD (ord.getD i 0).toNat []).getD j 0).toNat (ord.getD i 0) = putsN (stN rows ord i).2 (rows.getD (ord.getD i 0).toNat []) b (ord.getD i 0) (j + 1) := by rw [putsN_succ (by omega), putAt, hp]
       have hll : (putsN (stN rows ord i).2 (rows.getD (ord.getD i 0).toNat []) b (ord.getD i 0) (j + 1)).length = ((padN (putsN (stN rows ord i).2 (rows.getD (ord.getD i 0).toNat []) b (ord.getD i 0) j) q)).length := by rw [← hpe, List.length_set]
       rw [← len_set (padN (putsN (stN rows ord i).2 (rows.getD (ord.getD i 0).toNat []) b (ord.getD i 0) j) q) ((b : Int) + (rows.getD (ord.getD i 0).toNat []).getD j 0).toNat (ord.getD i 0), hpe] at H22
       exact ⟨(j + 1, A7, c7), by rw [hll]; exact (sc rfl (sc rfl (sc rfl (sc rfl (sc rfl (sc rfl (sc rfl (sc rfl (sc rfl (sc rfl (sc rfl (sc rfl (sn _))))))))))))), ⟨by dsimp only; omega, by dsimp only; rw [hll]; omega, H22.pm (by repeat constructor)⟩, by dsimp only; omega⟩
     ·have c3p := of_decide_eq_false c3
      refine wc_exit ?_
      refine wc_region ?_
      refine wl_v rfl rfl rfl (v_addi rfl rfl (by omega)) ?_
      refine wl_v rfl rfl rfl (v_move rfl) ?_
      refine wl_nil ?_
      exact ⟨(i + 1, A6, c6), by rw [stN_succ (by omega) hbf]; rw [take_done c3p]; exact (sc rfl (sc rfl (sc rfl (sc rfl (sc rfl (sc rfl (sc rfl (sn _)))))))), ⟨by dsimp only; omega, by rw [stN_succ (by omega) hbf]; dsimp only; rw [take_done c3p, Nat.succ_mul]; omega, by rw [stN_succ (by omega) hbf]; rw [take_done c3p]; exact H.pm (by repeat constructor)⟩, by dsimp only; omega⟩
   ·have c1p := of_decide_eq_false c1
    have hio : i = ord.length := by omega
    subst hio
    refine wc_exit ?_
    refine wc_seq ?_
    refine wc_block ?_
    refine wc_loop (σ := Nat × Option Addr × Nat) (fun s => [(1, .int .i64 least), (2, .pointer (some ⟨b2, 0, none⟩)), (4, .slice A32 rows.length rows.length), (5, .slice s.2.1 (padN (stN rows ord ord.length).2 s.1).length s.2.2)]) (fun s W => (s.1 = 0 ∨ ((stN rows ord ord.length).2.length : Int) + s.1 ≤ least) ∧ Holds w [Row (fInt .i64) 3 (.slice s.2.1 (padN (stN rows ord ord.length).2 s.1).length s.2.2) (padN (stN rows ord ord.length).2 s.1), Row (fInt .i64) 3 (.slice A32 rows.length rows.length) ((stN rows ord ord.length).1)] W) (fun s => least.toNat - ((stN rows ord ord.length).2.length + s.1)) (0, A5, c5) (sc rfl (sc rfl (sc rfl (sc rfl (sn _))))) ⟨.inl rfl, H.pm (by repeat constructor)⟩ ?_
    rintro ⟨q, A8, c8⟩ W5 ⟨hq, H⟩
    dsimp only at hq H ⊢
    have hql : (padN (stN rows ord ord.length).2 q).length = (stN rows ord ord.length).2.length + q := padN_len _ _
    refine wc_seq ?_
    refine wc_seq ?_
    refine wc_region ?_
    refine wl_v rfl rfl rfl (v_move rfl) ?_
    refine wl_v rfl rfl rfl (v_len Try.underlying39 rfl) ?_
    refine wl_v rfl rfl rfl (v_move rfl) ?_
    refine wl_v rfl rfl rfl (v_lss rfl rfl) ?_
    refine wl_nil ?_
    refine wc_cond rfl (fun c5 => ?_) (fun c5 => ?_)
    ·have c5p := of_decide_eq_true c5
     refine wc_skip ?_
     refine wc_block ?_
     refine wc_region ?_
     refine wl_v rfl rfl rfl (v_move rfl) ?_
     refine wl_slit (v := .int .i64 0) (z := [.int .i64 0]) (cs := [.int .i64 (-1)]) (sz := 1) H rfl Try.underlying39 sz3 zv3 (by decide) (by decide) (by kernel_rfl) rfl (by repeat constructor) ?_
     intro b92 w23 hb92 H23 hs23
     refine wl_app1 (f := fInt .i64) (xs := padN (stN rows ord ord.length).2 q) (y' := -1) H23 (fun v' => (by repeat constructor)) (by repeat constructor) rfl Try.underlying39 info3 rfl (by decide) rfl rfl rfl (by omega) (by decide) ?_
     intro A93 c93 w24 H24 hs24
     refine wl_v rfl rfl rfl (v_assign rfl) ?_
     refine wl_nil ?_
     exact ⟨(q + 1, A93, c93), (sc rfl (sc rfl (sc rfl (sc rfl (sn _))))), ⟨.inr (by dsimp only; omega), H24.pm (by repeat constructor)⟩, by dsimp only; omega⟩
    ·have c5p := of_decide_eq_false c5
     refine wc_exit ?_
     refine wc_seq ?_
     refine wc_region ?_
     refine wl_v rfl rfl rfl (v_move rfl) ?_
     refine wl_v rfl rfl rfl (v_move rfl) ?_
     refine wl_v rfl rfl rfl (v_assign rfl) ?_
     refine wl_v rfl rfl rfl (v_assign rfl) ?_
     refine wl_nil ?_
     refine wc_ret ?_
     have hp := pad_is (C := (stN rows ord ord.length).2) (q := q) (n := least.toNat) (by omega) (by omega)
     have e1 : (laidF rows ord least).2 = padN (stN rows ord ord.length).2 q := hp.symm
     have e2 : (laidF rows ord least).1 = (stN rows ord ord.length).1 := rfl
     have e3 := stN_len rows ord ord.length
     rw [e1, e2, e3]
     exact ⟨_, res2 rfl rfl rfl, _, _, _, _, rfl, H.pm (by repeat constructor)⟩
end Go.Proofs.Ytkpehkadammppaa.LaidW
