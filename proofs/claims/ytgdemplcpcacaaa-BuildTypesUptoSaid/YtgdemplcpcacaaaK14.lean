/- What may be data: the document's answer. A node's type: the document's answer. How many parts a node has. -/
import Derived.Test.YtgdemplcpcacaaaProg
import Derived.Test.YtgdemplcpcacaaaK13
import Derived.Test.YtgdemplcpcacaaaK05
import Derived.Test.YtgdemplcpcacaaaK03
set_option linter.unusedVariables false
set_option linter.unusedSimpArgs false
/-! What may be data: the document's answer. -/
namespace Go.Proofs.Ytgdemplcpcacaaa.RDatas
open Go Go.RowKit Go.Proofs.YtgdemplcpcacaaaFx Go.Proofs.Ytgdemplcpcacaaa.RCtor Go.Proofs.Ytgdemplcpcacaaa.NameW
theorem en51 : Enters Try.prog 51 := enters Try.func51 (by kernel_rfl) rfl
theorem en74 : Enters Try.prog 74 := enters Try.func74 (by kernel_rfl) rfl
theorem fa80_0 : FieldAt Try.prog 80 0 0 := field_at (sz := 0) Try.underlying80 rfl (by kernel_rfl) rfl
theorem fa80_1 : FieldAt Try.prog 80 1 1 := field_at (sz := 0) Try.underlying80 rfl (by kernel_rfl) rfl
theorem fa83_0 : FieldAt Try.prog 83 0 0 := field_at (sz := 0) Try.underlying83 rfl (by kernel_rfl) rfl
theorem fa83_1 : FieldAt Try.prog 83 1 1 := field_at (sz := 0) Try.underlying83 rfl (by kernel_rfl) rfl
theorem info9 : (Try.prog.info? 9).map (fun i => (i.zero, i.size, i.bytes)) = some (some (.string ⟨#[]⟩), 1, 16) := by kernel_rfl
theorem mixed : Try.prog.follows .mixedOrders = true := by kernel_rfl
theorem one40 : One Try.prog 40 := one_of Try.underlying40 rfl (by kernel_rfl)
theorem one81 : One Try.prog 81 := one_of Try.underlying81 rfl (by kernel_rfl)
theorem one9 : One Try.prog 9 := one_of Try.underlying9 rfl (by kernel_rfl)
theorem sz80 : ∀ W, (sizeOf 80).run Try.prog W = .ok 2 W := size_of (by kernel_rfl)
theorem sz83 : ∀ W, (sizeOf 83).run Try.prog W = .ok 2 W := size_of (by kernel_rfl)
theorem sz9 : ∀ W, (sizeOf 9).run Try.prog W = .ok 1 W := size_of (by kernel_rfl)
theorem zv9 : ∀ W, (zeroValue 9).run Try.prog W = .ok (.string ⟨#[]⟩) W := zero_of (by kernel_rfl)

set_option maxHeartbeats 6400000 in
set_option maxRecDepth 100000 in
theorem rdatas_calls {l : List Dt} {A : Option Addr} {cd : Nat} {w : World} (hl : DOk l) (hr : Rd kDt w A l) (hcd : l.length ≤ cd) : Calls Try.prog 50 #[.slice A l.length cd] w fun e w' => ∃ v, e = .returned v ∧ v = .int .i64 (dataE l) ∧ Holds w [] w' := by
  have hll := hl.len
  have hlf := hl.f
  refine calls_of Try.func50 rfl Try.ntmps50 rfl ?_
  have H := Holds.start w
  refine wcR ?_
  refine wA ?_
  refine wl_nil ?_
  refine wcR ?_
  refine wA ?_
  refine wl_nil ?_
  refine wc_seq ?_
  refine wcR ?_
  refine wA ?_
  refine wl_nil ?_
  refine wc_block ?_
  refine wc_loop (σ := Nat × Option Addr × Nat) (fun q => [(0, .slice A l.length cd), (3, .slice q.2.1 (cnm (upC l q.1 0)).length q.2.2), (4, .int .i64 q.1)]) (fun q W => (q.1 ≤ l.length ∧ ∀ k, k < q.1 → dtOk l k) ∧ Holds w [Row fStr 9 (.slice q.2.1 (cnm (upC l q.1 0)).length q.2.2) (cnm (upC l q.1 0))] W) (fun q => l.length - q.1) (0, none, 0) (by rw [upC_zero]; exact (sc rfl (sc rfl (sc rfl (sn _))))) ⟨⟨Nat.zero_le _, upto0⟩, by rw [upC_zero]; exact H.nilrow 9 1⟩ ?_
  rintro ⟨i, Az, cz⟩ W0 ⟨⟨hi, ha⟩, H⟩
  dsimp only at hi ha H ⊢
  refine wc_seq ?_
  refine wcR ?_
  refine wM ?_
  refine wM ?_
  refine wV (v_len Try.underlying45 rfl) ?_
  refine wV (v_lss rfl rfl) ?_
  refine wl_nil ?_
  refine wc_cond rfl (fun c0 => ?_) (fun c0 => ?_)
  ·have c0p := oT c0
   have hin : i < l.length := by omega
   have hcl := hl.cl hin
   refine wc_skip ?_
   refine wc_seq ?_
   refine wc_block ?_
   refine wc_seq ?_
   refine wc_seq ?_
   refine wc_tree [0, 1, 2, 3, 4, 6, 7, 8, 9, 10, 11, 12, 13, 14, 15, 16, 17, 18, 19, 20, 21, 22, 23, 25, 26] (fun W => Holds w [Row fStr 9 (.slice Az (cnm (upC l i 0)).length cz) (cnm (upC l i 0))] W) mixed ?_
   have Hd := H.drew
   have HSd : Holds w [Row fStr 9 (.slice Az (cnm (upC l i 0)).length cz) (cnm (upC l i 0))] _ := Hd.pm (by repeat constructor)
   refine wjV (k := 0) rfl HSd (fun W HW => v_move rfl) ?_
   refine wjV (k := 1) rfl HSd (fun W HW => v_move rfl) ?_
   refine wjV (k := 2) rfl HSd (fun W HW => v_idx Try.underlying45 sz83 hr.ad rfl rfl (by omega) (by omega)) ?_
   refine wjV (k := 3) rfl HSd (fun W HW => v_fp fa83_0 rfl) ?_
   obtain ⟨R22_, c22_, hc22_, hl22_, hR22_⟩ := hr.atDt (i := i) (by omega)
   refine wjV (k := 4) rfl HSd (fun W HW => v_load one9 rfl (HW.cell (hc22_ 0 _ rfl))) ?_
   refine wj_t (k := 5) rfl (by kernel_rfl) ?_
   refine wl_call en74 rfl rfl (rword_calls (hl.nm hin)) ?_
   rintro _ w1 ⟨rfl, Hc⟩
   have H2 := Hd.call0 Hc
   have HS3 : Holds w [Row fStr 9 (.slice Az (cnm (upC l i 0)).length cz) (cnm (upC l i 0))] _ := H2.pm (by repeat constructor)
   refine wl_nil (tn ⟨fun _ => HS3, ?_⟩)
   refine wjV (k := 6) rfl HS3 (fun W HW => v_not rfl) ?_
   refine wjV (k := 7) rfl HS3 (fun W HW => v_move rfl) ?_
   refine wj_guard (dj := 25) rfl (fun g25 => ?_) (fun g25 => ?_)
   ·have g25p := of_n_t g25
    refine wj_off (k := 8) rfl (by kernel_rfl) (fun _ _ _ h => h) rfl rfl g25 HS3 rfl ?_
    refine wj_off (k := 9) rfl (by kernel_rfl) (fun _ _ _ h => h) rfl rfl g25 HS3 rfl ?_
    refine wj_off (k := 10) rfl (by kernel_rfl) (fun _ _ _ h => h) rfl rfl g25 HS3 rfl ?_
    refine wj_off (k := 11) rfl (by kernel_rfl) (fun _ _ _ h => h) rfl rfl g25 HS3 rfl ?_
    refine wj_off (k := 12) rfl (by kernel_rfl) (fun _ _ _ h => h) rfl rfl g25 HS3 rfl ?_
    refine wj_off (k := 13) rfl (by kernel_rfl) (fun _ _ _ h => h) rfl rfl g25 HS3 rfl ?_
    refine wjV (k := 14) rfl HS3 (fun W HW => v_pick_t rfl g25 rfl) ?_
    refine wjV (k := 15) rfl HS3 (fun W HW => v_move rfl) ?_
    refine wj_off (k := 16) rfl (by kernel_rfl) (fun _ _ _ h => h) rfl rfl rfl HS3 rfl ?_
    refine wj_off (k := 17) rfl (by kernel_rfl) (fun _ _ _ h => h) rfl rfl rfl HS3 rfl ?_
    refine wj_off (k := 18) rfl (by kernel_rfl) (fun _ _ _ h => h) rfl rfl rfl HS3 rfl ?_
    refine wj_off (k := 19) rfl (by kernel_rfl) (fun _ _ _ h => h) rfl rfl rfl HS3 rfl ?_
    refine wj_off (k := 20) rfl (by kernel_rfl) (fun _ _ _ h => h) rfl rfl rfl HS3 rfl ?_
    refine wj_off (k := 21) rfl (by kernel_rfl) (fun _ _ _ h => h) rfl rfl rfl HS3 rfl ?_
    refine wj_off (k := 22) rfl (by kernel_rfl) (fun _ _ _ h => h) rfl rfl rfl HS3 rfl ?_
    refine wj_off (k := 23) rfl (by kernel_rfl) (fun _ _ _ h => h) rfl rfl rfl HS3 rfl ?_
    refine wj_t (k := 24) rfl (by kernel_rfl) ?_
    refine wF rfl ?_
    have HS4 : Holds w [Row fStr 9 (.slice Az (cnm (upC l i 0)).length cz) (cnm (upC l i 0))] _ := H2.pm (by repeat constructor)
    refine wl_nil (tn ⟨fun _ => HS4, ?_⟩)
    refine wj_off (k := 25) rfl (by kernel_rfl) (fun _ _ _ h => h) rfl rfl rfl HS4 rfl ?_
    refine wjV (k := 26) rfl HS4 (fun W HW => v_pick_t rfl rfl rfl) ?_
    refine wj_done (by kernel_rfl) ?_
    refine wc_cond_t rfl ?_
    refine wcR ?_
    refine wA ?_
    refine wl_nil ?_
    refine wc_ret ?_
    first
      | (have q_ := hjn
         exact ⟨_, res1 rfl rfl, by rw [dataE_ty hOn (fun ht => (ht _ (upC_mem hin hjn) _ (getD_mem hqn)).elim (fun h => g137p h) (fun h => by have h2_ := hm.2 h; omega))], H2.pm (Pm.nil _)⟩)
      | (have q_ := hT
         exact ⟨_, res1 rfl rfl, by rw [dataE_t hOn (hT.fin (by omega))], H2.pm (Pm.nil _)⟩)
      | (have q_ := hnn
         exact ⟨_, res1 rfl rfl, by rw [dataE_tw (fun ho => of_ndec (of_n_t c6) (show NameOk 32 ((cnm (flat l)).getD i s0) by rw [cnm_get hin]; exact (ho.2 i hin).1))], H2.pm (Pm.nil _)⟩)
      | (have q_ := c5p
         exact ⟨_, res1 rfl rfl, by rw [dataE_tw (fun ho => (fnd_take (by omega)).1 (ho.2 i hin).2 j (by omega) (by rw [← cnm_get hin]; exact c5p))], H2.pm (Pm.nil _)⟩)
      | (exact ⟨_, res1 rfl rfl, by (rw [dataE_tw (fun ho => by
           have h_ := ho.1 i hin
           first
             | exact of_ndec (of_n_t g25) h_.1
             | exact h_.2.1 g33p
             | exact h_.2.2 (hm.1 (by omega)))]), H2.pm (Pm.nil _)⟩)
   have g25p := of_n_f g25
   refine wj_vg (k := 8) rfl (by kernel_rfl) (fun _ _ _ h => h) rfl rfl g25 HS3 rfl (fun W HW => v_move rfl) ?_
   refine wj_vg (k := 9) rfl (by kernel_rfl) (fun _ _ _ h => h) rfl rfl g25 HS3 rfl (fun W HW => v_move rfl) ?_
   refine wj_vg (k := 10) rfl (by kernel_rfl) (fun _ _ _ h => h) rfl rfl g25 HS3 rfl (fun W HW => v_idx Try.underlying45 sz83 hr.ad rfl rfl (by omega) (by omega)) ?_
   refine wj_vg (k := 11) rfl (by kernel_rfl) (fun _ _ _ h => h) rfl rfl g25 HS3 rfl (fun W HW => v_fp fa83_0 rfl) ?_
   obtain ⟨R30_, c30_, hc30_, hl30_, hR30_⟩ := hr.atDt (i := i) (by omega)
   refine wj_vg (k := 12) rfl (by kernel_rfl) (fun _ _ _ h => h) rfl rfl g25 HS3 rfl (fun W HW => v_load one9 rfl (HW.cell (hc30_ 0 _ rfl))) ?_
   refine wj_vg (k := 13) rfl (by kernel_rfl) (fun _ _ _ h => h) rfl rfl g25 HS3 rfl (fun W HW => v_eqls rfl rfl) ?_
   refine wjV (k := 14) rfl HS3 (fun W HW => v_pick_f rfl g25 rfl) ?_
   refine wjV (k := 15) rfl HS3 (fun W HW => v_move rfl) ?_
   refine wj_guard (dj := 33) rfl (fun g33 => ?_) (fun g33 => ?_)
   ·have g33p := oT g33
    refine wj_off (k := 16) rfl (by kernel_rfl) (fun _ _ _ h => h) rfl rfl g33 HS3 rfl ?_
    refine wj_off (k := 17) rfl (by kernel_rfl) (fun _ _ _ h => h) rfl rfl g33 HS3 rfl ?_
    refine wj_off (k := 18) rfl (by kernel_rfl) (fun _ _ _ h => h) rfl rfl g33 HS3 rfl ?_
    refine wj_off (k := 19) rfl (by kernel_rfl) (fun _ _ _ h => h) rfl rfl g33 HS3 rfl ?_
    refine wj_off (k := 20) rfl (by kernel_rfl) (fun _ _ _ h => h) rfl rfl g33 HS3 rfl ?_
    refine wj_off (k := 21) rfl (by kernel_rfl) (fun _ _ _ h => h) rfl rfl g33 HS3 rfl ?_
    refine wj_off (k := 22) rfl (by kernel_rfl) (fun _ _ _ h => h) rfl rfl g33 HS3 rfl ?_
    refine wj_off (k := 23) rfl (by kernel_rfl) (fun _ _ _ h => h) rfl rfl g33 HS3 rfl ?_
    refine wj_t (k := 24) rfl (by kernel_rfl) ?_
    refine wF g33 ?_
    have HS5 : Holds w [Row fStr 9 (.slice Az (cnm (upC l i 0)).length cz) (cnm (upC l i 0))] _ := H2.pm (by repeat constructor)
    refine wl_nil (tn ⟨fun _ => HS5, ?_⟩)
    refine wj_off (k := 25) rfl (by kernel_rfl) (fun _ _ _ h => h) rfl rfl g33 HS5 rfl ?_
    refine wjV (k := 26) rfl HS5 (fun W HW => v_pick_t rfl g33 rfl) ?_
    refine wj_done (by kernel_rfl) ?_
    refine wc_cond_t rfl ?_
    refine wcR ?_
    refine wA ?_
    refine wl_nil ?_
    refine wc_ret ?_
    first
      | (have q_ := hjn
         exact ⟨_, res1 rfl rfl, by rw [dataE_ty hOn (fun ht => (ht _ (upC_mem hin hjn) _ (getD_mem hqn)).elim (fun h => g137p h) (fun h => by have h2_ := hm.2 h; omega))], H2.pm (Pm.nil _)⟩)
      | (have q_ := hT
         exact ⟨_, res1 rfl rfl, by rw [dataE_t hOn (hT.fin (by omega))], H2.pm (Pm.nil _)⟩)
      | (have q_ := hnn
         exact ⟨_, res1 rfl rfl, by rw [dataE_tw (fun ho => of_ndec (of_n_t c6) (show NameOk 32 ((cnm (flat l)).getD i s0) by rw [cnm_get hin]; exact (ho.2 i hin).1))], H2.pm (Pm.nil _)⟩)
      | (have q_ := c5p
         exact ⟨_, res1 rfl rfl, by rw [dataE_tw (fun ho => (fnd_take (by omega)).1 (ho.2 i hin).2 j (by omega) (by rw [← cnm_get hin]; exact c5p))], H2.pm (Pm.nil _)⟩)
      | (exact ⟨_, res1 rfl rfl, by (rw [dataE_tw (fun ho => by
           have h_ := ho.1 i hin
           first
             | exact of_ndec (of_n_t g25) h_.1
             | exact h_.2.1 g33p
             | exact h_.2.2 (hm.1 (by omega)))]), H2.pm (Pm.nil _)⟩)
   have g33p := oF g33
   refine wj_vg (k := 16) rfl (by kernel_rfl) (fun _ _ _ h => h) rfl rfl g33 HS3 rfl (fun W HW => v_move rfl) ?_
   refine wj_vg (k := 17) rfl (by kernel_rfl) (fun _ _ _ h => h) rfl rfl g33 HS3 rfl (fun W HW => v_move rfl) ?_
   refine wj_vg (k := 18) rfl (by kernel_rfl) (fun _ _ _ h => h) rfl rfl g33 HS3 rfl (fun W HW => v_cuthi Try.underlying45 sz83 rfl rfl (by omega) (by omega)) ?_
   refine wj_vg (k := 19) rfl (by kernel_rfl) (fun _ _ _ h => h) rfl rfl g33 HS3 rfl (fun W HW => v_move rfl) ?_
   refine wj_vg (k := 20) rfl (by kernel_rfl) (fun _ _ _ h => h) rfl rfl g33 HS3 rfl (fun W HW => v_move rfl) ?_
   refine wj_vg (k := 21) rfl (by kernel_rfl) (fun _ _ _ h => h) rfl rfl g33 HS3 rfl (fun W HW => v_idx Try.underlying45 sz83 hr.ad rfl rfl (by omega) (by omega)) ?_
   refine wj_vg (k := 22) rfl (by kernel_rfl) (fun _ _ _ h => h) rfl rfl g33 HS3 rfl (fun W HW => v_fp fa83_0 rfl) ?_
   obtain ⟨R41_, c41_, hc41_, hl41_, hR41_⟩ := hr.atDt (i := i) (by omega)
   refine wj_vg (k := 23) rfl (by kernel_rfl) (fun _ _ _ h => h) rfl rfl g33 HS3 rfl (fun W HW => v_load one9 rfl (HW.cell (hc41_ 0 _ rfl))) ?_
   refine wj_t (k := 24) rfl (by kernel_rfl) ?_
   refine wO g33 ?_
   refine wl_call en51 rfl rfl ((by have h_ := data_calls (l := l.take i) (cd := cd) (s := (l.getD i dt0).name) (by rw [List.length_take]; omega) ((hr.takes i).below H2.old); rw [List.length_take, Nat.min_eq_left (by omega)] at h_; exact h_)) ?_
   rintro _ w6 ⟨m, rfl, hm, Hc⟩
   have H7 := H2.call0 Hc
   have HS8 : Holds w [Row fStr 9 (.slice Az (cnm (upC l i 0)).length cz) (cnm (upC l i 0))] _ := H7.pm (by repeat constructor)
   refine wl_nil (tn ⟨fun _ => HS8, ?_⟩)
   refine wj_vg (k := 25) rfl (by kernel_rfl) (fun _ _ _ h => h) rfl rfl g33 HS8 rfl (fun W HW => v_geq rfl rfl) ?_
   refine wjV (k := 26) rfl HS8 (fun W HW => v_pick_f rfl g33 rfl) ?_
   refine wj_done (by kernel_rfl) ?_
   refine wc_cond rfl (fun c1 => ?_) (fun c1 => ?_)
   ·have c1p := oT c1
    refine wcR ?_
    refine wA ?_
    refine wl_nil ?_
    refine wc_ret ?_
    first
      | (have q_ := hjn
         exact ⟨_, res1 rfl rfl, by rw [dataE_ty hOn (fun ht => (ht _ (upC_mem hin hjn) _ (getD_mem hqn)).elim (fun h => g137p h) (fun h => by have h2_ := hm.2 h; omega))], H7.pm (Pm.nil _)⟩)
      | (have q_ := hT
         exact ⟨_, res1 rfl rfl, by rw [dataE_t hOn (hT.fin (by omega))], H7.pm (Pm.nil _)⟩)
      | (have q_ := hnn
         exact ⟨_, res1 rfl rfl, by rw [dataE_tw (fun ho => of_ndec (of_n_t c6) (show NameOk 32 ((cnm (flat l)).getD i s0) by rw [cnm_get hin]; exact (ho.2 i hin).1))], H7.pm (Pm.nil _)⟩)
      | (have q_ := c5p
         exact ⟨_, res1 rfl rfl, by rw [dataE_tw (fun ho => (fnd_take (by omega)).1 (ho.2 i hin).2 j (by omega) (by rw [← cnm_get hin]; exact c5p))], H7.pm (Pm.nil _)⟩)
      | (exact ⟨_, res1 rfl rfl, by (rw [dataE_tw (fun ho => by
           have h_ := ho.1 i hin
           first
             | exact of_ndec (of_n_t g25) h_.1
             | exact h_.2.1 g33p
             | exact h_.2.2 (hm.1 (by omega)))]), H7.pm (Pm.nil _)⟩)
   have c1p := oF c1
   have hdt : dtOk l i := ⟨of_dec (of_n_f g25), g33p, fun h_ => by have h2_ := hm.2 h_; omega⟩
   refine wc_skip ?_
   refine wcR ?_
   refine wA ?_
   refine wl_nil ?_
   refine wc_block ?_
   refine wc_loop (σ := Nat × Option Addr × Nat) (fun q => [(0, .slice A l.length cd), (3, .slice q.2.1 (cnm (upC l i q.1)).length q.2.2), (4, .int .i64 i), (5, .int .i64 q.1)]) (fun q W => (q.1 ≤ (l.getD i dt0).ctors.length) ∧ Holds w [Row fStr 9 (.slice q.2.1 (cnm (upC l i q.1)).length q.2.2) (cnm (upC l i q.1))] W) (fun q => (l.getD i dt0).ctors.length - q.1) (0, Az, cz) (sc rfl (sc rfl (sc rfl (sc rfl (sn _))))) ⟨Nat.zero_le _, H7.pm (by repeat constructor)⟩ ?_
   rintro ⟨j, Ay, cy⟩ W1 ⟨hj, H⟩
   dsimp only at hj H ⊢
   refine wc_seq ?_
   refine wcR ?_
   refine wM ?_
   refine wM ?_
   refine wM ?_
   refine wV (v_idx Try.underlying45 sz83 hr.ad rfl rfl (by omega) (by omega)) ?_
   refine wV (v_fp fa83_1 rfl) ?_
   obtain ⟨R50_, c50_, hc50_, hl50_, hR50_⟩ := hr.atDt (i := i) (by omega)
   refine wV (v_load one81 rfl (H.cell (hc50_ 1 _ rfl))) ?_
   refine wV (v_len Try.underlying81 rfl) ?_
   refine wV (v_lss rfl rfl) ?_
   refine wl_nil ?_
   refine wc_cond rfl (fun c2 => ?_) (fun c2 => ?_)
   rotate_left
   ·have c2p := oF c2
    refine wc_exit ?_
    refine wc_region ?_
    refine wM ?_
    refine wV (v_addi rfl rfl (by omega)) ?_
    refine wA ?_
    refine wl_nil ?_
    exact ⟨(i + 1, Ay, cy), (by dsimp only; rw [upC_next (j := j) hin (by omega)]; exact (sc rfl (sc rfl (sc rfl (sn _))))), ⟨⟨by dsimp only; omega, uptoS ha hdt⟩, by dsimp only; rw [upC_next (j := j) hin (by omega)]; exact H⟩, by dsimp only; omega⟩
   have c2p := oT c2
   have hjn : j < (l.getD i dt0).ctors.length := by omega
   have hul := upC_len (l := l) (i := i) (j := j) hin
   refine wc_skip ?_
   refine wc_seq ?_
   refine wc_block ?_
   refine wc_region ?_
   refine wM ?_
   refine wM ?_
   refine wM ?_
   refine wV (v_idx Try.underlying45 sz83 hr.ad rfl rfl (by omega) (by omega)) ?_
   refine wV (v_fp fa83_1 rfl) ?_
   obtain ⟨R60_, c60_, hc60_, hl60_, hR60_⟩ := hr.atDt (i := i) (by omega)
   refine wV (v_load one81 rfl (H.cell (hc60_ 1 _ rfl))) ?_
   refine wM ?_
   refine wV (v_idx Try.underlying81 sz80 hR60_.ad rfl rfl (by omega) (by omega)) ?_
   refine wV (v_fp fa80_0 rfl) ?_
   obtain ⟨R64_, c64_, hc64_, hl64_, hR64_⟩ := hR60_.atCt (i := j) (by omega)
   refine wV (v_load one9 rfl (H.cell (hc64_ 0 _ rfl))) ?_
   refine wl_slit (v := .string ⟨#[]⟩) (z := [.string ⟨#[]⟩]) (cs := [.string ((l.getD i dt0).ctors.getD j ct0).name]) (sz := 1) H rfl Try.underlying40 sz9 zv9 (by decide) (by decide) (by kernel_rfl) rfl (by repeat constructor) ?_
   intro b65 w9 hb65 H9 hs9
   refine wl_app1 (f := fStr) (xs := (cnm (upC l i j))) (y' := ((l.getD i dt0).ctors.getD j ct0).name) H9 (fun v' => (by repeat constructor)) (by repeat constructor) rfl Try.underlying40 info9 rfl (by decide) rfl rfl rfl (by rw [cnm_len]; omega) (by decide) ?_
   intro A66 c66 w10 H10 hs10
   rw [← cnm_succ hjn] at H10 ⊢
   refine wA ?_
   refine wl_nil ?_
   refine wc_region ?_
   refine wM ?_
   refine wV (v_addi rfl rfl (by omega)) ?_
   refine wA ?_
   refine wl_nil ?_
   exact ⟨(j + 1, A66, c66), (sc rfl (sc rfl (sc rfl (sc rfl (sn _))))), ⟨by dsimp only; omega, H10.pm (by repeat constructor)⟩, by dsimp only; omega⟩
  have c0p := oF c0
  obtain rfl : i = l.length := by omega
  rw [upC_zero, List.take_length] at H ⊢
  refine wc_exit ?_
  refine wc_seq ?_
  refine wcR ?_
  refine wA ?_
  refine wl_nil ?_
  refine wc_block ?_
  refine wc_loop (σ := Nat) (fun q => [(0, .slice A l.length cd), (3, .slice Az (cnm (flat l)).length cz), (6, .int .i64 q)]) (fun q W => (q ≤ (flat l).length ∧ ∀ k, k < q → ctOk (flat l) k) ∧ Holds w [Row fStr 9 (.slice Az (cnm (flat l)).length cz) (cnm (flat l))] W) (fun q => (flat l).length - q) 0 (sc rfl (sc rfl (sc rfl (sn _)))) ⟨⟨Nat.zero_le _, upto0⟩, H⟩ ?_
  rintro i W2 ⟨⟨hi, hb⟩, H⟩
  refine wc_seq ?_
  refine wcR ?_
  refine wM ?_
  refine wM ?_
  refine wV (v_len Try.underlying40 rfl) ?_
  refine wV (v_lss rfl rfl) ?_
  refine wl_nil ?_
  refine wc_cond rfl (fun c3 => ?_) (fun c3 => ?_)
  ·have c3p := oT c3
   rw [cnm_len] at c3p
   have hin : i < (flat l).length := by omega
   refine wc_skip ?_
   refine wc_seq ?_
   refine wc_block ?_
   refine wc_seq ?_
   refine wcR ?_
   refine wA ?_
   refine wl_nil ?_
   refine wc_block ?_
   refine wc_loop (σ := Nat) (fun q => [(0, .slice A l.length cd), (3, .slice Az (cnm (flat l)).length cz), (6, .int .i64 i), (7, .int .i64 q)]) (fun q W => (q ≤ i ∧ ∀ k, k < q → (cnm (flat l)).getD k s0 ≠ (cnm (flat l)).getD i s0) ∧ Holds w [Row fStr 9 (.slice Az (cnm (flat l)).length cz) (cnm (flat l))] W) (fun q => i - q) 0 (sc rfl (sc rfl (sc rfl (sc rfl (sn _))))) ⟨⟨Nat.zero_le _, upto0⟩, H⟩ ?_
   rintro j W3 ⟨⟨hj, hd⟩, H⟩
   refine wc_seq ?_
   refine wcR ?_
   refine wM ?_
   refine wM ?_
   refine wV (v_lss rfl rfl) ?_
   refine wl_nil ?_
   refine wc_cond rfl (fun c4 => ?_) (fun c4 => ?_)
   rotate_left
   ·have c4p := oF c4
    have hnn : fnd ((flat l).take i) ((flat l).getD i (s0, ct0)).2.name = none := (fnd_take (by omega)).2 fun k hk => by rw [← cnm_get hin]; exact hd k (by omega)
    have hcnl := cnm_len (flat l)
    refine wc_exit ?_
    refine wcR ?_
    refine wM ?_
    refine wM ?_
    refine wV (v_idx Try.underlying40 sz9 (H.rrd (f := fStr) (e := 9) (A := Az) (xs := (cnm (flat l))) (by repeat constructor)).ad rfl rfl (by omega) (by omega)) ?_
    refine wV (v_load one9 rfl ((H.rrd (f := fStr) (e := 9) (A := Az) (xs := (cnm (flat l))) (by repeat constructor)).at1sN (i := i) (by omega))) ?_
    refine wl_call en74 rfl rfl (rword_calls (show ((cnm (flat l)).getD i s0).size ≤ 1099511627776 by rw [cnm_get hin]; exact (hl.cn _ (getD_mem hin)).1)) ?_
    rintro _ w11 ⟨rfl, Hc⟩
    have H12 := H.call0 Hc
    refine wV (v_not rfl) ?_
    refine wl_nil ?_
    refine wc_cond rfl (fun c6 => ?_) (fun c6 => ?_)
    rotate_left
    ·have c6p := of_n_f c6
     refine wc_skip ?_
     refine wc_region ?_
     refine wM ?_
     refine wV (v_addi rfl rfl (by omega)) ?_
     refine wA ?_
     refine wl_nil ?_
     exact ⟨i + 1, (sc rfl (sc rfl (sc rfl (sn _)))), ⟨⟨by omega, uptoS hb ⟨by rw [← cnm_get hin]; exact of_dec (of_n_f c6), hnn⟩⟩, H12.pm (by repeat constructor)⟩, by omega⟩
    have c6p := of_n_t c6
    refine wcR ?_
    refine wA ?_
    refine wl_nil ?_
    refine wc_ret ?_
    first
      | (have q_ := hjn
         exact ⟨_, res1 rfl rfl, by rw [dataE_ty hOn (fun ht => (ht _ (upC_mem hin hjn) _ (getD_mem hqn)).elim (fun h => g137p h) (fun h => by have h2_ := hm.2 h; omega))], H12.pm (Pm.nil _)⟩)
      | (have q_ := hT
         exact ⟨_, res1 rfl rfl, by rw [dataE_t hOn (hT.fin (by omega))], H12.pm (Pm.nil _)⟩)
      | (have q_ := hnn
         exact ⟨_, res1 rfl rfl, by rw [dataE_tw (fun ho => of_ndec (of_n_t c6) (show NameOk 32 ((cnm (flat l)).getD i s0) by rw [cnm_get hin]; exact (ho.2 i hin).1))], H12.pm (Pm.nil _)⟩)
      | (have q_ := c5p
         exact ⟨_, res1 rfl rfl, by rw [dataE_tw (fun ho => (fnd_take (by omega)).1 (ho.2 i hin).2 j (by omega) (by rw [← cnm_get hin]; exact c5p))], H12.pm (Pm.nil _)⟩)
      | (exact ⟨_, res1 rfl rfl, by (rw [dataE_tw (fun ho => by
           have h_ := ho.1 i hin
           first
             | exact of_ndec (of_n_t g25) h_.1
             | exact h_.2.1 g33p
             | exact h_.2.2 (hm.1 (by omega)))]), H12.pm (Pm.nil _)⟩)
   have c4p := oT c4
   have hjn : j < (flat l).length := by omega
   have hcnl := cnm_len (flat l)
   refine wc_skip ?_
   refine wc_seq ?_
   refine wc_block ?_
   refine wc_seq ?_
   refine wc_tree [0, 1, 2, 3, 4, 5, 6, 7, 8] (fun W => Holds w [Row fStr 9 (.slice Az (cnm (flat l)).length cz) (cnm (flat l))] W) mixed ?_
   have Hd := H.drew
   have HSd : Holds w [Row fStr 9 (.slice Az (cnm (flat l)).length cz) (cnm (flat l))] _ := Hd.pm (by repeat constructor)
   refine wjV (k := 0) rfl HSd (fun W HW => v_move rfl) ?_
   refine wjV (k := 1) rfl HSd (fun W HW => v_move rfl) ?_
   refine wjV (k := 2) rfl HSd (fun W HW => v_idx Try.underlying40 sz9 (HW.rrd (f := fStr) (e := 9) (A := Az) (xs := (cnm (flat l))) (by repeat constructor)).ad rfl rfl (by omega) (by omega)) ?_
   refine wjV (k := 3) rfl HSd (fun W HW => v_load one9 rfl ((HW.rrd (f := fStr) (e := 9) (A := Az) (xs := (cnm (flat l))) (by repeat constructor)).at1sN (i := j) (by omega))) ?_
   refine wjV (k := 4) rfl HSd (fun W HW => v_move rfl) ?_
   refine wjV (k := 5) rfl HSd (fun W HW => v_move rfl) ?_
   refine wjV (k := 6) rfl HSd (fun W HW => v_idx Try.underlying40 sz9 (HW.rrd (f := fStr) (e := 9) (A := Az) (xs := (cnm (flat l))) (by repeat constructor)).ad rfl rfl (by omega) (by omega)) ?_
   refine wjV (k := 7) rfl HSd (fun W HW => v_load one9 rfl ((HW.rrd (f := fStr) (e := 9) (A := Az) (xs := (cnm (flat l))) (by repeat constructor)).at1sN (i := i) (by omega))) ?_
   refine wjV (k := 8) rfl HSd (fun W HW => v_eqls rfl rfl) ?_
   refine wj_done (by kernel_rfl) ?_
   refine wc_cond rfl (fun c5 => ?_) (fun c5 => ?_)
   rotate_left
   ·have c5p := oF c5
    refine wc_skip ?_
    refine wc_region ?_
    refine wM ?_
    refine wV (v_addi rfl rfl (by omega)) ?_
    refine wA ?_
    refine wl_nil ?_
    exact ⟨j + 1, (sc rfl (sc rfl (sc rfl (sc rfl (sn _))))), ⟨⟨by omega, uptoS hd c5p⟩, Hd.pm (by repeat constructor)⟩, by omega⟩
   have c5p := oT c5
   refine wcR ?_
   refine wA ?_
   refine wl_nil ?_
   refine wc_ret ?_
   first
     | (have q_ := hjn
        exact ⟨_, res1 rfl rfl, by rw [dataE_ty hOn (fun ht => (ht _ (upC_mem hin hjn) _ (getD_mem hqn)).elim (fun h => g137p h) (fun h => by have h2_ := hm.2 h; omega))], Hd.pm (Pm.nil _)⟩)
     | (have q_ := hT
        exact ⟨_, res1 rfl rfl, by rw [dataE_t hOn (hT.fin (by omega))], Hd.pm (Pm.nil _)⟩)
     | (have q_ := hnn
        exact ⟨_, res1 rfl rfl, by rw [dataE_tw (fun ho => of_ndec (of_n_t c6) (show NameOk 32 ((cnm (flat l)).getD i s0) by rw [cnm_get hin]; exact (ho.2 i hin).1))], Hd.pm (Pm.nil _)⟩)
     | (have q_ := c5p
        exact ⟨_, res1 rfl rfl, by rw [dataE_tw (fun ho => (fnd_take (by omega)).1 (ho.2 i hin).2 j (by omega) (by rw [← cnm_get hin]; exact c5p))], Hd.pm (Pm.nil _)⟩)
     | (exact ⟨_, res1 rfl rfl, by (rw [dataE_tw (fun ho => by
          have h_ := ho.1 i hin
          first
            | exact of_ndec (of_n_t g25) h_.1
            | exact h_.2.1 g33p
            | exact h_.2.2 (hm.1 (by omega)))]), Hd.pm (Pm.nil _)⟩)
  have c3p := oF c3
  rw [cnm_len] at c3p
  have hOn : Once l := ⟨fun k hk => ha k hk, fun k hk => hb k (by omega)⟩
  refine wc_exit ?_
  refine wc_seq ?_
  refine wcR ?_
  refine wA ?_
  refine wl_nil ?_
  refine wc_block ?_
  refine wc_loop (σ := Nat) (fun q => [(0, .slice A l.length cd), (8, .int .i64 q)]) (fun q W => (q ≤ l.length ∧ TypdTo l q 0 0) ∧ Holds w [] W) (fun q => l.length - q) 0 (sc rfl (sc rfl (sn _))) ⟨⟨Nat.zero_le _, TypdTo.start⟩, H.pm (by repeat (first | exact Pm.nil _ | constructor))⟩ ?_
  rintro i W4 ⟨⟨hi, hT⟩, H⟩
  refine wc_seq ?_
  refine wcR ?_
  refine wM ?_
  refine wM ?_
  refine wV (v_len Try.underlying45 rfl) ?_
  refine wV (v_lss rfl rfl) ?_
  refine wl_nil ?_
  refine wc_cond rfl (fun c7 => ?_) (fun c7 => ?_)
  rotate_left
  ·have c7p := oF c7
   refine wc_exit ?_
   refine wcR ?_
   refine wA ?_
   refine wl_nil ?_
   refine wc_ret ?_
   first
     | (have q_ := hjn
        exact ⟨_, res1 rfl rfl, by rw [dataE_ty hOn (fun ht => (ht _ (upC_mem hin hjn) _ (getD_mem hqn)).elim (fun h => g137p h) (fun h => by have h2_ := hm.2 h; omega))], H.pm (Pm.nil _)⟩)
     | (have q_ := hT
        exact ⟨_, res1 rfl rfl, by rw [dataE_t hOn (hT.fin (by omega))], H.pm (Pm.nil _)⟩)
     | (have q_ := hnn
        exact ⟨_, res1 rfl rfl, by rw [dataE_tw (fun ho => of_ndec (of_n_t c6) (show NameOk 32 ((cnm (flat l)).getD i s0) by rw [cnm_get hin]; exact (ho.2 i hin).1))], H.pm (Pm.nil _)⟩)
     | (have q_ := c5p
        exact ⟨_, res1 rfl rfl, by rw [dataE_tw (fun ho => (fnd_take (by omega)).1 (ho.2 i hin).2 j (by omega) (by rw [← cnm_get hin]; exact c5p))], H.pm (Pm.nil _)⟩)
     | (exact ⟨_, res1 rfl rfl, by (rw [dataE_tw (fun ho => by
          have h_ := ho.1 i hin
          first
            | exact of_ndec (of_n_t g25) h_.1
            | exact h_.2.1 g33p
            | exact h_.2.2 (hm.1 (by omega)))]), H.pm (Pm.nil _)⟩)
  have c7p := oT c7
  have hin : i < l.length := by omega
  have hcl := hl.cl hin
  refine wc_skip ?_
  refine wc_seq ?_
  refine wc_block ?_
  refine wcR ?_
  refine wA ?_
  refine wl_nil ?_
  refine wc_block ?_
  refine wc_loop (σ := Nat) (fun q => [(0, .slice A l.length cd), (8, .int .i64 i), (9, .int .i64 q)]) (fun q W => (q ≤ (l.getD i dt0).ctors.length ∧ TypdTo l i q 0) ∧ Holds w [] W) (fun q => (l.getD i dt0).ctors.length - q) 0 (sc rfl (sc rfl (sc rfl (sn _)))) ⟨⟨Nat.zero_le _, hT⟩, H⟩ ?_
  rintro j W5 ⟨⟨hj, hT⟩, H⟩
  refine wc_seq ?_
  refine wcR ?_
  refine wM ?_
  refine wM ?_
  refine wM ?_
  refine wV (v_idx Try.underlying45 sz83 hr.ad rfl rfl (by omega) (by omega)) ?_
  refine wV (v_fp fa83_1 rfl) ?_
  obtain ⟨R104_, c104_, hc104_, hl104_, hR104_⟩ := hr.atDt (i := i) (by omega)
  refine wV (v_load one81 rfl (H.cell (hc104_ 1 _ rfl))) ?_
  refine wV (v_len Try.underlying81 rfl) ?_
  refine wV (v_lss rfl rfl) ?_
  refine wl_nil ?_
  refine wc_cond rfl (fun c8 => ?_) (fun c8 => ?_)
  rotate_left
  ·have c8p := oF c8
   refine wc_exit ?_
   refine wc_region ?_
   refine wM ?_
   refine wV (v_addi rfl rfl (by omega)) ?_
   refine wA ?_
   refine wl_nil ?_
   exact ⟨i + 1, (sc rfl (sc rfl (sn _))), ⟨⟨by omega, hT.row hin (by omega)⟩, H⟩, by omega⟩
  have c8p := oT c8
  have hjn : j < (l.getD i dt0).ctors.length := by omega
  have hfl := (hl.up hin hjn).2.1
  refine wc_skip ?_
  refine wc_seq ?_
  refine wc_block ?_
  refine wcR ?_
  refine wA ?_
  refine wl_nil ?_
  refine wc_block ?_
  refine wc_loop (σ := Nat) (fun q => [(0, .slice A l.length cd), (8, .int .i64 i), (9, .int .i64 j), (10, .int .i64 q)]) (fun q W => (q ≤ ((l.getD i dt0).ctors.getD j ct0).fields.length ∧ TypdTo l i j q) ∧ Holds w [] W) (fun q => ((l.getD i dt0).ctors.getD j ct0).fields.length - q) 0 (sc rfl (sc rfl (sc rfl (sc rfl (sn _))))) ⟨⟨Nat.zero_le _, hT⟩, H⟩ ?_
  rintro q W6 ⟨⟨hq, hT⟩, H⟩
  refine wc_seq ?_
  refine wcR ?_
  refine wM ?_
  refine wM ?_
  refine wM ?_
  refine wV (v_idx Try.underlying45 sz83 hr.ad rfl rfl (by omega) (by omega)) ?_
  refine wV (v_fp fa83_1 rfl) ?_
  obtain ⟨R114_, c114_, hc114_, hl114_, hR114_⟩ := hr.atDt (i := i) (by omega)
  refine wV (v_load one81 rfl (H.cell (hc114_ 1 _ rfl))) ?_
  refine wM ?_
  refine wV (v_idx Try.underlying81 sz80 hR114_.ad rfl rfl (by omega) (by omega)) ?_
  refine wV (v_fp fa80_1 rfl) ?_
  obtain ⟨R118_, c118_, hc118_, hl118_, hR118_⟩ := hR114_.atCt (i := j) (by omega)
  refine wV (v_load one40 rfl (H.cell (hc118_ 1 _ rfl))) ?_
  refine wV (v_len Try.underlying40 rfl) ?_
  refine wV (v_lss rfl rfl) ?_
  refine wl_nil ?_
  refine wc_cond rfl (fun c9 => ?_) (fun c9 => ?_)
  rotate_left
  ·have c9p := oF c9
   refine wc_exit ?_
   refine wc_region ?_
   refine wM ?_
   refine wV (v_addi rfl rfl (by omega)) ?_
   refine wA ?_
   refine wl_nil ?_
   exact ⟨j + 1, (sc rfl (sc rfl (sc rfl (sn _)))), ⟨⟨by omega, hT.ct hjn (by omega)⟩, H⟩, by omega⟩
  have c9p := oT c9
  have hqn : q < ((l.getD i dt0).ctors.getD j ct0).fields.length := by omega
  refine wc_skip ?_
  refine wc_seq ?_
  refine wc_block ?_
  refine wcR ?_
  refine wM ?_
  refine wM ?_
  refine wV (v_idx Try.underlying45 sz83 hr.ad rfl rfl (by omega) (by omega)) ?_
  refine wV (v_fp fa83_1 rfl) ?_
  obtain ⟨R127_, c127_, hc127_, hl127_, hR127_⟩ := hr.atDt (i := i) (by omega)
  refine wV (v_load one81 rfl (H.cell (hc127_ 1 _ rfl))) ?_
  refine wM ?_
  refine wV (v_idx Try.underlying81 sz80 hR127_.ad rfl rfl (by omega) (by omega)) ?_
  refine wV (v_fp fa80_1 rfl) ?_
  obtain ⟨R131_, c131_, hc131_, hl131_, hR131_⟩ := hR127_.atCt (i := j) (by omega)
  refine wV (v_load one40 rfl (H.cell (hc131_ 1 _ rfl))) ?_
  refine wM ?_
  refine wV (v_idx Try.underlying40 sz9 hR131_.ad rfl rfl (by omega) (by omega)) ?_
  refine wV (v_load one9 rfl (H.cell (hR131_.at1sN (i := q) (by omega)))) ?_
  refine wA ?_
  refine wl_nil ?_
  refine wcR ?_
  refine wM ?_
  refine wV (v_neqs rfl rfl) ?_
  refine wM ?_
  refine wl_guard rfl rfl rfl (fun g137 => ?_) (fun g137 => ?_)
  rotate_left
  ·have g137p := of_nd_f g137
   refine wF g137 ?_
   refine wF g137 ?_
   refine wF g137 ?_
   refine wV (v_pick_f rfl g137 rfl) ?_
   refine wl_nil ?_
   refine wc_cond_f rfl ?_
   refine wc_skip ?_
   refine wc_region ?_
   refine wM ?_
   refine wV (v_addi rfl rfl (by omega)) ?_
   refine wA ?_
   refine wl_nil ?_
   first
     | exact ⟨q + 1, (sc rfl (sc rfl (sc rfl (sc rfl (sn _))))), ⟨⟨by omega, hT.next hqn (.inr (hm.1 (by omega)))⟩, H⟩, by omega⟩
     | exact ⟨q + 1, (sc rfl (sc rfl (sc rfl (sc rfl (sn _))))), ⟨⟨by omega, hT.next hqn (.inl g137p)⟩, H⟩, by omega⟩
  have g137p := of_nd_t g137
  refine wM ?_
  refine wO g137 ?_
  refine wM ?_
  refine wO g137 ?_
  refine wl_call en51 rfl rfl (data_calls (l := l) (cd := cd) (s := ((((l.getD i dt0).ctors.getD j ct0).fields).getD q s0)) hll (hr.below H.old)) ?_
  rintro _ w13 ⟨m, rfl, hm, Hc⟩
  have H14 := H.call0 Hc
  refine wO g137 ?_
  refine wV (v_lss rfl rfl) ?_
  refine wV (v_pick_t rfl g137 rfl) ?_
  refine wl_nil ?_
  refine wc_cond rfl (fun c10 => ?_) (fun c10 => ?_)
  rotate_left
  ·have c10p := oF c10
   refine wc_skip ?_
   refine wc_region ?_
   refine wM ?_
   refine wV (v_addi rfl rfl (by omega)) ?_
   refine wA ?_
   refine wl_nil ?_
   first
     | exact ⟨q + 1, (sc rfl (sc rfl (sc rfl (sc rfl (sn _))))), ⟨⟨by omega, hT.next hqn (.inr (hm.1 (by omega)))⟩, H14⟩, by omega⟩
     | exact ⟨q + 1, (sc rfl (sc rfl (sc rfl (sc rfl (sn _))))), ⟨⟨by omega, hT.next hqn (.inl g137p)⟩, H14⟩, by omega⟩
  have c10p := oT c10
  refine wcR ?_
  refine wA ?_
  refine wl_nil ?_
  refine wc_ret ?_
  first
    | (have q_ := hjn
       exact ⟨_, res1 rfl rfl, by rw [dataE_ty hOn (fun ht => (ht _ (upC_mem hin hjn) _ (getD_mem hqn)).elim (fun h => g137p h) (fun h => by have h2_ := hm.2 h; omega))], H14.pm (Pm.nil _)⟩)
    | (have q_ := hT
       exact ⟨_, res1 rfl rfl, by rw [dataE_t hOn (hT.fin (by omega))], H14.pm (Pm.nil _)⟩)
    | (have q_ := hnn
       exact ⟨_, res1 rfl rfl, by rw [dataE_tw (fun ho => of_ndec (of_n_t c6) (show NameOk 32 ((cnm (flat l)).getD i s0) by rw [cnm_get hin]; exact (ho.2 i hin).1))], H14.pm (Pm.nil _)⟩)
    | (have q_ := c5p
       exact ⟨_, res1 rfl rfl, by rw [dataE_tw (fun ho => (fnd_take (by omega)).1 (ho.2 i hin).2 j (by omega) (by rw [← cnm_get hin]; exact c5p))], H14.pm (Pm.nil _)⟩)
    | (exact ⟨_, res1 rfl rfl, by (rw [dataE_tw (fun ho => by
         have h_ := ho.1 i hin
         first
           | exact of_ndec (of_n_t g25) h_.1
           | exact h_.2.1 g33p
           | exact h_.2.2 (hm.1 (by omega)))]), H14.pm (Pm.nil _)⟩)
end Go.Proofs.Ytgdemplcpcacaaa.RDatas

/-! A node's type: the document's answer. -/
namespace Go.Proofs.Ytgdemplcpcacaaa.RFit
open Go Go.RowKit Go.Proofs.YtgdemplcpcacaaaFx Go.Proofs.Ytgdemplcpcacaaa.RCtor Go.Proofs.Ytgdemplcpcacaaa.RDatas
theorem agg24 : Agg Try.prog 24 4 := agg_of Try.underlying24 (by kernel_rfl)
theorem en50 : Enters Try.prog 50 := enters Try.func50 (by kernel_rfl) rfl
theorem en54 : Enters Try.prog 54 := enters Try.func54 (by kernel_rfl) rfl
theorem en77 : Enters Try.prog 77 := enters Try.func77 (by kernel_rfl) rfl
theorem fa24_0 : FieldAt Try.prog 24 0 0 := field_at (sz := 0) Try.underlying24 rfl (by kernel_rfl) rfl
theorem fa24_1 : FieldAt Try.prog 24 1 1 := field_at (sz := 0) Try.underlying24 rfl (by kernel_rfl) rfl
theorem fa24_2 : FieldAt Try.prog 24 2 2 := field_at (sz := 0) Try.underlying24 rfl (by kernel_rfl) rfl
theorem fa24_3 : FieldAt Try.prog 24 3 3 := field_at (sz := 0) Try.underlying24 rfl (by kernel_rfl) rfl
theorem fa80_1 : FieldAt Try.prog 80 1 1 := field_at (sz := 0) Try.underlying80 rfl (by kernel_rfl) rfl
theorem mixed : Try.prog.follows .mixedOrders = true := by kernel_rfl
theorem one22 : One Try.prog 22 := one_of Try.underlying22 rfl (by kernel_rfl)
theorem one3 : One Try.prog 3 := one_of Try.underlying3 rfl (by kernel_rfl)
theorem one40 : One Try.prog 40 := one_of Try.underlying40 rfl (by kernel_rfl)
theorem one9 : One Try.prog 9 := one_of Try.underlying9 rfl (by kernel_rfl)
theorem sz24 : ∀ W, (sizeOf 24).run Try.prog W = .ok 4 W := size_of (by kernel_rfl)
theorem sz80 : ∀ W, (sizeOf 80).run Try.prog W = .ok 2 W := size_of (by kernel_rfl)
theorem sz9 : ∀ W, (sizeOf 9).run Try.prog W = .ok 1 W := size_of (by kernel_rfl)
theorem zv80 : ∀ W, (zeroValue 80).run Try.prog W = .ok (.agg #[.string ⟨#[]⟩, .slice none 0 0]) W := zero_of (by kernel_rfl)

def FitOk (l : List Dt) (t : Nd) : Prop := ∀ (w : World) (A B : Option Addr) (cd k : Nat) (name : ByteArray) (hd : Rd kDt w A l) (hr : Rd (kTr fNd) w B t.kids) (hf : t.All smallN), Calls Try.prog 54 #[.slice A l.length cd, .agg #[.int .i64 t.x.kind, .string t.x.name, .int .i64 t.x.tok, .slice B t.kids.length k], .string name] w fun e w' => ∃ v, e = .returned v ∧ v = .bool (dec (fitN (flat l) t name)) ∧ Holds w [] w'

set_option maxHeartbeats 6400000 in
set_option maxRecDepth 100000 in
theorem fit_step {l : List Dt} {t : Nd} {w : World} {A B : Option Addr} {cd k : Nat} {name : ByteArray} (hl : DOk l) (hd : Rd kDt w A l) (hr : Rd (kTr fNd) w B t.kids) (hf : t.All smallN) (ih : ∀ t' ∈ t.kids, FitOk l t') : Calls Try.prog 54 #[.slice A l.length cd, .agg #[.int .i64 t.x.kind, .string t.x.name, .int .i64 t.x.tok, .slice B t.kids.length k], .string name] w fun e w' => ∃ v, e = .returned v ∧ v = .bool (dec (fitN (flat l) t name)) ∧ Holds w [] w' := by
  obtain ⟨⟨hsz, hkk⟩, hks⟩ := (Tr.All_eq t).1 hf
  refine calls_of Try.func54 rfl Try.ntmps54 rfl ?_
  have H := Holds.start w
  refine wcR ?_
  refine wl_box (cs := [_, _, _, _]) H rfl rfl rfl ?_
  intro b4 w1 hb4 H2
  refine wA ?_
  refine wl_nil ?_
  refine wcR ?_
  refine wV (v_fb (o2 := 3) fa24_3 rfl rfl) ?_
  refine wV (v_load one22 rfl (H2.at (by repeat constructor) rfl)) ?_
  refine wV (v_len Try.underlying22 rfl) ?_
  refine wV (v_eql rfl rfl) ?_
  refine wA ?_
  refine wl_nil ?_
  refine wc_seq ?_
  refine wcR ?_
  refine wV (v_fb (o2 := 0) fa24_0 rfl rfl) ?_
  refine wV (v_load one3 rfl (H2.at (by repeat constructor) rfl)) ?_
  refine wl_nil ?_
  refine wc_block ?_
  refine wcR ?_
  refine wV (v_eql rfl rfl) ?_
  refine wA ?_
  refine wl_nil ?_
  refine wc_cond rfl (fun c0 => ?_) (fun c0 => ?_)
  ·have c0p := oT c0
   refine wcR ?_
   refine wM ?_
   refine wV (v_eqls rfl rfl) ?_
   refine wM ?_
   refine wl_guard rfl rfl rfl (fun g22 => ?_) (fun g22 => ?_)
   rotate_left
   ·have g22p := oF g22
    refine wV (v_pick_f rfl g22 rfl) ?_
    refine wM ?_
    refine wF rfl ?_
    refine wF rfl ?_
    refine wF rfl ?_
    refine wV (v_pick_f rfl rfl rfl) ?_
    refine wM ?_
    refine wF rfl ?_
    refine wF rfl ?_
    refine wF rfl ?_
    refine wV (v_pick_f rfl rfl rfl) ?_
    refine wA ?_
    refine wl_nil ?_
    refine wc_ret ?_
    first
      | (have q_ := c0p
         first
           | exact ⟨_, res1 rfl rfl, congrArg Value.bool (dec_eq ⟨fun hd => (fit0 c0p).2 ⟨g22p, of_decide_eq_true hd, g30p, by omega⟩, fun hh => decide_eq_true (by have h_ := (fit0 c0p).1 hh; exact h_.2.1)⟩), H2.pm (by repeat (first | exact Pm.nil _ | constructor))⟩
           | exact ⟨_, res1 rfl rfl, congrArg Value.bool (dec_f fun hh => by (have h_ := (fit0 c0p).1 hh; first | omega | exact g22p h_.1)).symm, H2.pm (by repeat (first | exact Pm.nil _ | constructor))⟩)
      | (have q_ := c1p
         first
           | exact ⟨_, res1 rfl rfl, congrArg Value.bool (dec_eq ⟨fun hd => (fit1 c1p).2 ⟨g39p, g47p, of_decide_eq_true hd, by omega⟩, fun hh => decide_eq_true (by have h_ := (fit1 c1p).1 hh; exact h_.2.2.1)⟩), H2.pm (by repeat (first | exact Pm.nil _ | constructor))⟩
           | exact ⟨_, res1 rfl rfl, congrArg Value.bool (dec_f fun hh => by (have h_ := (fit1 c1p).1 hh; first | omega | exact g39p h_.1)).symm, H2.pm (by repeat (first | exact Pm.nil _ | constructor))⟩)
      | (have q_ := c2p
         first
           | exact ⟨_, res1 rfl rfl, congrArg Value.bool (dec_eq ⟨fun hd => (fit2 c2p).2 ⟨g56p, of_decide_eq_true hd, by omega⟩, fun hh => decide_eq_true (by have h_ := (fit2 c2p).1 hh; exact h_.2.1)⟩), H2.pm (by repeat (first | exact Pm.nil _ | constructor))⟩
           | exact ⟨_, res1 rfl rfl, congrArg Value.bool (dec_f fun hh => by (have h_ := (fit2 c2p).1 hh; first | omega | exact g56p h_.1)).symm, H2.pm (by repeat (first | exact Pm.nil _ | constructor))⟩)
      | (have q_ := c6
         exact ⟨_, res1 rfl rfl, congrArg Value.bool (dec_f fun hh => of_ndec (of_n_t c6) ((fitNs_iff _ _).1 ((fit3_f c3p hp).1 hh).2.2.2 i hin)).symm, H2.pm (by repeat (first | exact Pm.nil _ | constructor))⟩)
      | (have q_ := c5p
         exact ⟨_, res1 rfl rfl, congrArg Value.bool (dec_t ((fit3_f c3p hp).2 ⟨g81p, c4p, by omega, (fitNs_iff _ _).2 fun j hj => ha j (by omega)⟩)).symm, H2.pm (by repeat (first | exact Pm.nil _ | constructor))⟩)
      | (have q_ := c3p
         exact ⟨_, res1 rfl rfl, congrArg Value.bool (dec_f fun hh => by
           obtain ⟨p', hp', h1_, h2_, h3_, _⟩ := (fit3 c3p).1 hh
           first
             | (rw [hp'] at g76p; cases g76p; done)
             | (rw [hp] at hp'; cases hp'; first | exact g81p h1_ | omega)).symm, H2.pm (by repeat (first | exact Pm.nil _ | constructor))⟩)
      | exact ⟨_, res1 rfl rfl, congrArg Value.bool (dec_f (fitx c0p c1p c2p c3p)).symm, H2.pm (by repeat (first | exact Pm.nil _ | constructor))⟩
   have g22p := oT g22
   refine wM ?_
   refine wV (v_pick_t rfl g22 rfl) ?_
   refine wM ?_
   refine wl_guard rfl rfl rfl (fun g25 => ?_) (fun g25 => ?_)
   rotate_left
   ·have g25p := oF g25
    refine wF g25 ?_
    refine wF g25 ?_
    refine wV (v_pick_f rfl g25 rfl) ?_
    refine wM ?_
    refine wF rfl ?_
    refine wF rfl ?_
    refine wF rfl ?_
    refine wV (v_pick_f rfl rfl rfl) ?_
    refine wA ?_
    refine wl_nil ?_
    refine wc_ret ?_
    first
      | (have q_ := c0p
         first
           | exact ⟨_, res1 rfl rfl, congrArg Value.bool (dec_eq ⟨fun hd => (fit0 c0p).2 ⟨g22p, of_decide_eq_true hd, g30p, by omega⟩, fun hh => decide_eq_true (by have h_ := (fit0 c0p).1 hh; exact h_.2.1)⟩), H2.pm (by repeat (first | exact Pm.nil _ | constructor))⟩
           | exact ⟨_, res1 rfl rfl, congrArg Value.bool (dec_f fun hh => by (have h_ := (fit0 c0p).1 hh; first | omega | exact g22p h_.1)).symm, H2.pm (by repeat (first | exact Pm.nil _ | constructor))⟩)
      | (have q_ := c1p
         first
           | exact ⟨_, res1 rfl rfl, congrArg Value.bool (dec_eq ⟨fun hd => (fit1 c1p).2 ⟨g39p, g47p, of_decide_eq_true hd, by omega⟩, fun hh => decide_eq_true (by have h_ := (fit1 c1p).1 hh; exact h_.2.2.1)⟩), H2.pm (by repeat (first | exact Pm.nil _ | constructor))⟩
           | exact ⟨_, res1 rfl rfl, congrArg Value.bool (dec_f fun hh => by (have h_ := (fit1 c1p).1 hh; first | omega | exact g39p h_.1)).symm, H2.pm (by repeat (first | exact Pm.nil _ | constructor))⟩)
      | (have q_ := c2p
         first
           | exact ⟨_, res1 rfl rfl, congrArg Value.bool (dec_eq ⟨fun hd => (fit2 c2p).2 ⟨g56p, of_decide_eq_true hd, by omega⟩, fun hh => decide_eq_true (by have h_ := (fit2 c2p).1 hh; exact h_.2.1)⟩), H2.pm (by repeat (first | exact Pm.nil _ | constructor))⟩
           | exact ⟨_, res1 rfl rfl, congrArg Value.bool (dec_f fun hh => by (have h_ := (fit2 c2p).1 hh; first | omega | exact g56p h_.1)).symm, H2.pm (by repeat (first | exact Pm.nil _ | constructor))⟩)
      | (have q_ := c6
         exact ⟨_, res1 rfl rfl, congrArg Value.bool (dec_f fun hh => of_ndec (of_n_t c6) ((fitNs_iff _ _).1 ((fit3_f c3p hp).1 hh).2.2.2 i hin)).symm, H2.pm (by repeat (first | exact Pm.nil _ | constructor))⟩)
      | (have q_ := c5p
         exact ⟨_, res1 rfl rfl, congrArg Value.bool (dec_t ((fit3_f c3p hp).2 ⟨g81p, c4p, by omega, (fitNs_iff _ _).2 fun j hj => ha j (by omega)⟩)).symm, H2.pm (by repeat (first | exact Pm.nil _ | constructor))⟩)
      | (have q_ := c3p
         exact ⟨_, res1 rfl rfl, congrArg Value.bool (dec_f fun hh => by
           obtain ⟨p', hp', h1_, h2_, h3_, _⟩ := (fit3 c3p).1 hh
           first
             | (rw [hp'] at g76p; cases g76p; done)
             | (rw [hp] at hp'; cases hp'; first | exact g81p h1_ | omega)).symm, H2.pm (by repeat (first | exact Pm.nil _ | constructor))⟩)
      | exact ⟨_, res1 rfl rfl, congrArg Value.bool (dec_f (fitx c0p c1p c2p c3p)).symm, H2.pm (by repeat (first | exact Pm.nil _ | constructor))⟩
   have g25p := oT g25
   refine wV (v_fb (o2 := 2) fa24_2 rfl rfl) ?_
   refine wO g25 ?_
   refine wV (v_load one3 rfl (H2.at (by repeat constructor) rfl)) ?_
   refine wO g25 ?_
   refine wV (v_eql rfl rfl) ?_
   refine wV (v_pick_t rfl g25 rfl) ?_
   refine wM ?_
   refine wl_guard rfl rfl rfl (fun g30 => ?_) (fun g30 => ?_)
   rotate_left
   ·have g30p := oF g30
    refine wF g30 ?_
    refine wF g30 ?_
    refine wV (v_pick_f rfl g30 rfl) ?_
    refine wA ?_
    refine wl_nil ?_
    refine wc_ret ?_
    first
      | (have q_ := c0p
         first
           | exact ⟨_, res1 rfl rfl, congrArg Value.bool (dec_eq ⟨fun hd => (fit0 c0p).2 ⟨g22p, of_decide_eq_true hd, g30p, by omega⟩, fun hh => decide_eq_true (by have h_ := (fit0 c0p).1 hh; exact h_.2.1)⟩), H2.pm (by repeat (first | exact Pm.nil _ | constructor))⟩
           | exact ⟨_, res1 rfl rfl, congrArg Value.bool (dec_f fun hh => by (have h_ := (fit0 c0p).1 hh; first | omega | exact g22p h_.1)).symm, H2.pm (by repeat (first | exact Pm.nil _ | constructor))⟩)
      | (have q_ := c1p
         first
           | exact ⟨_, res1 rfl rfl, congrArg Value.bool (dec_eq ⟨fun hd => (fit1 c1p).2 ⟨g39p, g47p, of_decide_eq_true hd, by omega⟩, fun hh => decide_eq_true (by have h_ := (fit1 c1p).1 hh; exact h_.2.2.1)⟩), H2.pm (by repeat (first | exact Pm.nil _ | constructor))⟩
           | exact ⟨_, res1 rfl rfl, congrArg Value.bool (dec_f fun hh => by (have h_ := (fit1 c1p).1 hh; first | omega | exact g39p h_.1)).symm, H2.pm (by repeat (first | exact Pm.nil _ | constructor))⟩)
      | (have q_ := c2p
         first
           | exact ⟨_, res1 rfl rfl, congrArg Value.bool (dec_eq ⟨fun hd => (fit2 c2p).2 ⟨g56p, of_decide_eq_true hd, by omega⟩, fun hh => decide_eq_true (by have h_ := (fit2 c2p).1 hh; exact h_.2.1)⟩), H2.pm (by repeat (first | exact Pm.nil _ | constructor))⟩
           | exact ⟨_, res1 rfl rfl, congrArg Value.bool (dec_f fun hh => by (have h_ := (fit2 c2p).1 hh; first | omega | exact g56p h_.1)).symm, H2.pm (by repeat (first | exact Pm.nil _ | constructor))⟩)
      | (have q_ := c6
         exact ⟨_, res1 rfl rfl, congrArg Value.bool (dec_f fun hh => of_ndec (of_n_t c6) ((fitNs_iff _ _).1 ((fit3_f c3p hp).1 hh).2.2.2 i hin)).symm, H2.pm (by repeat (first | exact Pm.nil _ | constructor))⟩)
      | (have q_ := c5p
         exact ⟨_, res1 rfl rfl, congrArg Value.bool (dec_t ((fit3_f c3p hp).2 ⟨g81p, c4p, by omega, (fitNs_iff _ _).2 fun j hj => ha j (by omega)⟩)).symm, H2.pm (by repeat (first | exact Pm.nil _ | constructor))⟩)
      | (have q_ := c3p
         exact ⟨_, res1 rfl rfl, congrArg Value.bool (dec_f fun hh => by
           obtain ⟨p', hp', h1_, h2_, h3_, _⟩ := (fit3 c3p).1 hh
           first
             | (rw [hp'] at g76p; cases g76p; done)
             | (rw [hp] at hp'; cases hp'; first | exact g81p h1_ | omega)).symm, H2.pm (by repeat (first | exact Pm.nil _ | constructor))⟩)
      | exact ⟨_, res1 rfl rfl, congrArg Value.bool (dec_f (fitx c0p c1p c2p c3p)).symm, H2.pm (by repeat (first | exact Pm.nil _ | constructor))⟩
   have g30p := oT g30
   refine wV (v_fb (o2 := 1) fa24_1 rfl rfl) ?_
   refine wO g30 ?_
   refine wV (v_load one9 rfl (H2.at (by repeat constructor) rfl)) ?_
   refine wO g30 ?_
   refine wV (v_eqls rfl rfl) ?_
   refine wV (v_pick_t rfl g30 rfl) ?_
   refine wA ?_
   refine wl_nil ?_
   refine wc_ret ?_
   first
     | (have q_ := c0p
        first
          | exact ⟨_, res1 rfl rfl, congrArg Value.bool (dec_eq ⟨fun hd => (fit0 c0p).2 ⟨g22p, of_decide_eq_true hd, g30p, by omega⟩, fun hh => decide_eq_true (by have h_ := (fit0 c0p).1 hh; exact h_.2.1)⟩), H2.pm (by repeat (first | exact Pm.nil _ | constructor))⟩
          | exact ⟨_, res1 rfl rfl, congrArg Value.bool (dec_f fun hh => by (have h_ := (fit0 c0p).1 hh; first | omega | exact g22p h_.1)).symm, H2.pm (by repeat (first | exact Pm.nil _ | constructor))⟩)
     | (have q_ := c1p
        first
          | exact ⟨_, res1 rfl rfl, congrArg Value.bool (dec_eq ⟨fun hd => (fit1 c1p).2 ⟨g39p, g47p, of_decide_eq_true hd, by omega⟩, fun hh => decide_eq_true (by have h_ := (fit1 c1p).1 hh; exact h_.2.2.1)⟩), H2.pm (by repeat (first | exact Pm.nil _ | constructor))⟩
          | exact ⟨_, res1 rfl rfl, congrArg Value.bool (dec_f fun hh => by (have h_ := (fit1 c1p).1 hh; first | omega | exact g39p h_.1)).symm, H2.pm (by repeat (first | exact Pm.nil _ | constructor))⟩)
     | (have q_ := c2p
        first
          | exact ⟨_, res1 rfl rfl, congrArg Value.bool (dec_eq ⟨fun hd => (fit2 c2p).2 ⟨g56p, of_decide_eq_true hd, by omega⟩, fun hh => decide_eq_true (by have h_ := (fit2 c2p).1 hh; exact h_.2.1)⟩), H2.pm (by repeat (first | exact Pm.nil _ | constructor))⟩
          | exact ⟨_, res1 rfl rfl, congrArg Value.bool (dec_f fun hh => by (have h_ := (fit2 c2p).1 hh; first | omega | exact g56p h_.1)).symm, H2.pm (by repeat (first | exact Pm.nil _ | constructor))⟩)
     | (have q_ := c6
        exact ⟨_, res1 rfl rfl, congrArg Value.bool (dec_f fun hh => of_ndec (of_n_t c6) ((fitNs_iff _ _).1 ((fit3_f c3p hp).1 hh).2.2.2 i hin)).symm, H2.pm (by repeat (first | exact Pm.nil _ | constructor))⟩)
     | (have q_ := c5p
        exact ⟨_, res1 rfl rfl, congrArg Value.bool (dec_t ((fit3_f c3p hp).2 ⟨g81p, c4p, by omega, (fitNs_iff _ _).2 fun j hj => ha j (by omega)⟩)).symm, H2.pm (by repeat (first | exact Pm.nil _ | constructor))⟩)
     | (have q_ := c3p
        exact ⟨_, res1 rfl rfl, congrArg Value.bool (dec_f fun hh => by
          obtain ⟨p', hp', h1_, h2_, h3_, _⟩ := (fit3 c3p).1 hh
          first
            | (rw [hp'] at g76p; cases g76p; done)
            | (rw [hp] at hp'; cases hp'; first | exact g81p h1_ | omega)).symm, H2.pm (by repeat (first | exact Pm.nil _ | constructor))⟩)
     | exact ⟨_, res1 rfl rfl, congrArg Value.bool (dec_f (fitx c0p c1p c2p c3p)).symm, H2.pm (by repeat (first | exact Pm.nil _ | constructor))⟩
  have c0p := oF c0
  refine wcR ?_
  refine wV (v_eql rfl rfl) ?_
  refine wA ?_
  refine wl_nil ?_
  refine wc_cond rfl (fun c1 => ?_) (fun c1 => ?_)
  ·have c1p := oT c1
   refine wcR ?_
   refine wM ?_
   refine wV (v_eqls rfl rfl) ?_
   refine wM ?_
   refine wl_guard rfl rfl rfl (fun g39 => ?_) (fun g39 => ?_)
   rotate_left
   ·have g39p := oF g39
    refine wV (v_pick_f rfl g39 rfl) ?_
    refine wM ?_
    refine wF rfl ?_
    refine wF rfl ?_
    refine wF rfl ?_
    refine wV (v_pick_f rfl rfl rfl) ?_
    refine wM ?_
    refine wF rfl ?_
    refine wF rfl ?_
    refine wF rfl ?_
    refine wV (v_pick_f rfl rfl rfl) ?_
    refine wA ?_
    refine wl_nil ?_
    refine wc_ret ?_
    first
      | (have q_ := c0p
         first
           | exact ⟨_, res1 rfl rfl, congrArg Value.bool (dec_eq ⟨fun hd => (fit0 c0p).2 ⟨g22p, of_decide_eq_true hd, g30p, by omega⟩, fun hh => decide_eq_true (by have h_ := (fit0 c0p).1 hh; exact h_.2.1)⟩), H2.pm (by repeat (first | exact Pm.nil _ | constructor))⟩
           | exact ⟨_, res1 rfl rfl, congrArg Value.bool (dec_f fun hh => by (have h_ := (fit0 c0p).1 hh; first | omega | exact g22p h_.1)).symm, H2.pm (by repeat (first | exact Pm.nil _ | constructor))⟩)
      | (have q_ := c1p
         first
           | exact ⟨_, res1 rfl rfl, congrArg Value.bool (dec_eq ⟨fun hd => (fit1 c1p).2 ⟨g39p, g47p, of_decide_eq_true hd, by omega⟩, fun hh => decide_eq_true (by have h_ := (fit1 c1p).1 hh; exact h_.2.2.1)⟩), H2.pm (by repeat (first | exact Pm.nil _ | constructor))⟩
           | exact ⟨_, res1 rfl rfl, congrArg Value.bool (dec_f fun hh => by (have h_ := (fit1 c1p).1 hh; first | omega | exact g39p h_.1)).symm, H2.pm (by repeat (first | exact Pm.nil _ | constructor))⟩)
      | (have q_ := c2p
         first
           | exact ⟨_, res1 rfl rfl, congrArg Value.bool (dec_eq ⟨fun hd => (fit2 c2p).2 ⟨g56p, of_decide_eq_true hd, by omega⟩, fun hh => decide_eq_true (by have h_ := (fit2 c2p).1 hh; exact h_.2.1)⟩), H2.pm (by repeat (first | exact Pm.nil _ | constructor))⟩
           | exact ⟨_, res1 rfl rfl, congrArg Value.bool (dec_f fun hh => by (have h_ := (fit2 c2p).1 hh; first | omega | exact g56p h_.1)).symm, H2.pm (by repeat (first | exact Pm.nil _ | constructor))⟩)
      | (have q_ := c6
         exact ⟨_, res1 rfl rfl, congrArg Value.bool (dec_f fun hh => of_ndec (of_n_t c6) ((fitNs_iff _ _).1 ((fit3_f c3p hp).1 hh).2.2.2 i hin)).symm, H2.pm (by repeat (first | exact Pm.nil _ | constructor))⟩)
      | (have q_ := c5p
         exact ⟨_, res1 rfl rfl, congrArg Value.bool (dec_t ((fit3_f c3p hp).2 ⟨g81p, c4p, by omega, (fitNs_iff _ _).2 fun j hj => ha j (by omega)⟩)).symm, H2.pm (by repeat (first | exact Pm.nil _ | constructor))⟩)
      | (have q_ := c3p
         exact ⟨_, res1 rfl rfl, congrArg Value.bool (dec_f fun hh => by
           obtain ⟨p', hp', h1_, h2_, h3_, _⟩ := (fit3 c3p).1 hh
           first
             | (rw [hp'] at g76p; cases g76p; done)
             | (rw [hp] at hp'; cases hp'; first | exact g81p h1_ | omega)).symm, H2.pm (by repeat (first | exact Pm.nil _ | constructor))⟩)
      | exact ⟨_, res1 rfl rfl, congrArg Value.bool (dec_f (fitx c0p c1p c2p c3p)).symm, H2.pm (by repeat (first | exact Pm.nil _ | constructor))⟩
   have g39p := oT g39
   refine wM ?_
   refine wV (v_pick_t rfl g39 rfl) ?_
   refine wM ?_
   refine wl_guard rfl rfl rfl (fun g42 => ?_) (fun g42 => ?_)
   rotate_left
   ·have g42p := oF g42
    refine wF g42 ?_
    refine wF g42 ?_
    refine wV (v_pick_f rfl g42 rfl) ?_
    refine wM ?_
    refine wF rfl ?_
    refine wF rfl ?_
    refine wF rfl ?_
    refine wV (v_pick_f rfl rfl rfl) ?_
    refine wA ?_
    refine wl_nil ?_
    refine wc_ret ?_
    first
      | (have q_ := c0p
         first
           | exact ⟨_, res1 rfl rfl, congrArg Value.bool (dec_eq ⟨fun hd => (fit0 c0p).2 ⟨g22p, of_decide_eq_true hd, g30p, by omega⟩, fun hh => decide_eq_true (by have h_ := (fit0 c0p).1 hh; exact h_.2.1)⟩), H2.pm (by repeat (first | exact Pm.nil _ | constructor))⟩
           | exact ⟨_, res1 rfl rfl, congrArg Value.bool (dec_f fun hh => by (have h_ := (fit0 c0p).1 hh; first | omega | exact g22p h_.1)).symm, H2.pm (by repeat (first | exact Pm.nil _ | constructor))⟩)
      | (have q_ := c1p
         first
           | exact ⟨_, res1 rfl rfl, congrArg Value.bool (dec_eq ⟨fun hd => (fit1 c1p).2 ⟨g39p, g47p, of_decide_eq_true hd, by omega⟩, fun hh => decide_eq_true (by have h_ := (fit1 c1p).1 hh; exact h_.2.2.1)⟩), H2.pm (by repeat (first | exact Pm.nil _ | constructor))⟩
           | exact ⟨_, res1 rfl rfl, congrArg Value.bool (dec_f fun hh => by (have h_ := (fit1 c1p).1 hh; first | omega | exact g39p h_.1)).symm, H2.pm (by repeat (first | exact Pm.nil _ | constructor))⟩)
      | (have q_ := c2p
         first
           | exact ⟨_, res1 rfl rfl, congrArg Value.bool (dec_eq ⟨fun hd => (fit2 c2p).2 ⟨g56p, of_decide_eq_true hd, by omega⟩, fun hh => decide_eq_true (by have h_ := (fit2 c2p).1 hh; exact h_.2.1)⟩), H2.pm (by repeat (first | exact Pm.nil _ | constructor))⟩
           | exact ⟨_, res1 rfl rfl, congrArg Value.bool (dec_f fun hh => by (have h_ := (fit2 c2p).1 hh; first | omega | exact g56p h_.1)).symm, H2.pm (by repeat (first | exact Pm.nil _ | constructor))⟩)
      | (have q_ := c6
         exact ⟨_, res1 rfl rfl, congrArg Value.bool (dec_f fun hh => of_ndec (of_n_t c6) ((fitNs_iff _ _).1 ((fit3_f c3p hp).1 hh).2.2.2 i hin)).symm, H2.pm (by repeat (first | exact Pm.nil _ | constructor))⟩)
      | (have q_ := c5p
         exact ⟨_, res1 rfl rfl, congrArg Value.bool (dec_t ((fit3_f c3p hp).2 ⟨g81p, c4p, by omega, (fitNs_iff _ _).2 fun j hj => ha j (by omega)⟩)).symm, H2.pm (by repeat (first | exact Pm.nil _ | constructor))⟩)
      | (have q_ := c3p
         exact ⟨_, res1 rfl rfl, congrArg Value.bool (dec_f fun hh => by
           obtain ⟨p', hp', h1_, h2_, h3_, _⟩ := (fit3 c3p).1 hh
           first
             | (rw [hp'] at g76p; cases g76p; done)
             | (rw [hp] at hp'; cases hp'; first | exact g81p h1_ | omega)).symm, H2.pm (by repeat (first | exact Pm.nil _ | constructor))⟩)
      | exact ⟨_, res1 rfl rfl, congrArg Value.bool (dec_f (fitx c0p c1p c2p c3p)).symm, H2.pm (by repeat (first | exact Pm.nil _ | constructor))⟩
   have g42p := oT g42
   refine wV (v_fb (o2 := 2) fa24_2 rfl rfl) ?_
   refine wO g42 ?_
   refine wV (v_load one3 rfl (H2.at (by repeat constructor) rfl)) ?_
   refine wO g42 ?_
   refine wV (v_geq rfl rfl) ?_
   refine wV (v_pick_t rfl g42 rfl) ?_
   refine wM ?_
   refine wl_guard rfl rfl rfl (fun g47 => ?_) (fun g47 => ?_)
   rotate_left
   ·have g47p := oF g47
    refine wF g47 ?_
    refine wF g47 ?_
    refine wV (v_pick_f rfl g47 rfl) ?_
    refine wA ?_
    refine wl_nil ?_
    refine wc_ret ?_
    first
      | (have q_ := c0p
         first
           | exact ⟨_, res1 rfl rfl, congrArg Value.bool (dec_eq ⟨fun hd => (fit0 c0p).2 ⟨g22p, of_decide_eq_true hd, g30p, by omega⟩, fun hh => decide_eq_true (by have h_ := (fit0 c0p).1 hh; exact h_.2.1)⟩), H2.pm (by repeat (first | exact Pm.nil _ | constructor))⟩
           | exact ⟨_, res1 rfl rfl, congrArg Value.bool (dec_f fun hh => by (have h_ := (fit0 c0p).1 hh; first | omega | exact g22p h_.1)).symm, H2.pm (by repeat (first | exact Pm.nil _ | constructor))⟩)
      | (have q_ := c1p
         first
           | exact ⟨_, res1 rfl rfl, congrArg Value.bool (dec_eq ⟨fun hd => (fit1 c1p).2 ⟨g39p, g47p, of_decide_eq_true hd, by omega⟩, fun hh => decide_eq_true (by have h_ := (fit1 c1p).1 hh; exact h_.2.2.1)⟩), H2.pm (by repeat (first | exact Pm.nil _ | constructor))⟩
           | exact ⟨_, res1 rfl rfl, congrArg Value.bool (dec_f fun hh => by (have h_ := (fit1 c1p).1 hh; first | omega | exact g39p h_.1)).symm, H2.pm (by repeat (first | exact Pm.nil _ | constructor))⟩)
      | (have q_ := c2p
         first
           | exact ⟨_, res1 rfl rfl, congrArg Value.bool (dec_eq ⟨fun hd => (fit2 c2p).2 ⟨g56p, of_decide_eq_true hd, by omega⟩, fun hh => decide_eq_true (by have h_ := (fit2 c2p).1 hh; exact h_.2.1)⟩), H2.pm (by repeat (first | exact Pm.nil _ | constructor))⟩
           | exact ⟨_, res1 rfl rfl, congrArg Value.bool (dec_f fun hh => by (have h_ := (fit2 c2p).1 hh; first | omega | exact g56p h_.1)).symm, H2.pm (by repeat (first | exact Pm.nil _ | constructor))⟩)
      | (have q_ := c6
         exact ⟨_, res1 rfl rfl, congrArg Value.bool (dec_f fun hh => of_ndec (of_n_t c6) ((fitNs_iff _ _).1 ((fit3_f c3p hp).1 hh).2.2.2 i hin)).symm, H2.pm (by repeat (first | exact Pm.nil _ | constructor))⟩)
      | (have q_ := c5p
         exact ⟨_, res1 rfl rfl, congrArg Value.bool (dec_t ((fit3_f c3p hp).2 ⟨g81p, c4p, by omega, (fitNs_iff _ _).2 fun j hj => ha j (by omega)⟩)).symm, H2.pm (by repeat (first | exact Pm.nil _ | constructor))⟩)
      | (have q_ := c3p
         exact ⟨_, res1 rfl rfl, congrArg Value.bool (dec_f fun hh => by
           obtain ⟨p', hp', h1_, h2_, h3_, _⟩ := (fit3 c3p).1 hh
           first
             | (rw [hp'] at g76p; cases g76p; done)
             | (rw [hp] at hp'; cases hp'; first | exact g81p h1_ | omega)).symm, H2.pm (by repeat (first | exact Pm.nil _ | constructor))⟩)
      | exact ⟨_, res1 rfl rfl, congrArg Value.bool (dec_f (fitx c0p c1p c2p c3p)).symm, H2.pm (by repeat (first | exact Pm.nil _ | constructor))⟩
   have g47p := oT g47
   refine wV (v_fb (o2 := 1) fa24_1 rfl rfl) ?_
   refine wO g47 ?_
   refine wV (v_load one9 rfl (H2.at (by repeat constructor) rfl)) ?_
   refine wO g47 ?_
   refine wV (v_eqls rfl rfl) ?_
   refine wV (v_pick_t rfl g47 rfl) ?_
   refine wA ?_
   refine wl_nil ?_
   refine wc_ret ?_
   first
     | (have q_ := c0p
        first
          | exact ⟨_, res1 rfl rfl, congrArg Value.bool (dec_eq ⟨fun hd => (fit0 c0p).2 ⟨g22p, of_decide_eq_true hd, g30p, by omega⟩, fun hh => decide_eq_true (by have h_ := (fit0 c0p).1 hh; exact h_.2.1)⟩), H2.pm (by repeat (first | exact Pm.nil _ | constructor))⟩
          | exact ⟨_, res1 rfl rfl, congrArg Value.bool (dec_f fun hh => by (have h_ := (fit0 c0p).1 hh; first | omega | exact g22p h_.1)).symm, H2.pm (by repeat (first | exact Pm.nil _ | constructor))⟩)
     | (have q_ := c1p
        first
          | exact ⟨_, res1 rfl rfl, congrArg Value.bool (dec_eq ⟨fun hd => (fit1 c1p).2 ⟨g39p, g47p, of_decide_eq_true hd, by omega⟩, fun hh => decide_eq_true (by have h_ := (fit1 c1p).1 hh; exact h_.2.2.1)⟩), H2.pm (by repeat (first | exact Pm.nil _ | constructor))⟩
          | exact ⟨_, res1 rfl rfl, congrArg Value.bool (dec_f fun hh => by (have h_ := (fit1 c1p).1 hh; first | omega | exact g39p h_.1)).symm, H2.pm (by repeat (first | exact Pm.nil _ | constructor))⟩)
     | (have q_ := c2p
        first
          | exact ⟨_, res1 rfl rfl, congrArg Value.bool (dec_eq ⟨fun hd => (fit2 c2p).2 ⟨g56p, of_decide_eq_true hd, by omega⟩, fun hh => decide_eq_true (by have h_ := (fit2 c2p).1 hh; exact h_.2.1)⟩), H2.pm (by repeat (first | exact Pm.nil _ | constructor))⟩
          | exact ⟨_, res1 rfl rfl, congrArg Value.bool (dec_f fun hh => by (have h_ := (fit2 c2p).1 hh; first | omega | exact g56p h_.1)).symm, H2.pm (by repeat (first | exact Pm.nil _ | constructor))⟩)
     | (have q_ := c6
        exact ⟨_, res1 rfl rfl, congrArg Value.bool (dec_f fun hh => of_ndec (of_n_t c6) ((fitNs_iff _ _).1 ((fit3_f c3p hp).1 hh).2.2.2 i hin)).symm, H2.pm (by repeat (first | exact Pm.nil _ | constructor))⟩)
     | (have q_ := c5p
        exact ⟨_, res1 rfl rfl, congrArg Value.bool (dec_t ((fit3_f c3p hp).2 ⟨g81p, c4p, by omega, (fitNs_iff _ _).2 fun j hj => ha j (by omega)⟩)).symm, H2.pm (by repeat (first | exact Pm.nil _ | constructor))⟩)
     | (have q_ := c3p
        exact ⟨_, res1 rfl rfl, congrArg Value.bool (dec_f fun hh => by
          obtain ⟨p', hp', h1_, h2_, h3_, _⟩ := (fit3 c3p).1 hh
          first
            | (rw [hp'] at g76p; cases g76p; done)
            | (rw [hp] at hp'; cases hp'; first | exact g81p h1_ | omega)).symm, H2.pm (by repeat (first | exact Pm.nil _ | constructor))⟩)
     | exact ⟨_, res1 rfl rfl, congrArg Value.bool (dec_f (fitx c0p c1p c2p c3p)).symm, H2.pm (by repeat (first | exact Pm.nil _ | constructor))⟩
  have c1p := oF c1
  refine wcR ?_
  refine wV (v_eql rfl rfl) ?_
  refine wA ?_
  refine wl_nil ?_
  refine wc_cond rfl (fun c2 => ?_) (fun c2 => ?_)
  ·have c2p := oT c2
   refine wcR ?_
   refine wM ?_
   refine wV (v_eqls rfl rfl) ?_
   refine wM ?_
   refine wl_guard rfl rfl rfl (fun g56 => ?_) (fun g56 => ?_)
   rotate_left
   ·have g56p := oF g56
    refine wV (v_pick_f rfl g56 rfl) ?_
    refine wM ?_
    refine wF rfl ?_
    refine wF rfl ?_
    refine wF rfl ?_
    refine wV (v_pick_f rfl rfl rfl) ?_
    refine wA ?_
    refine wl_nil ?_
    refine wc_ret ?_
    first
      | (have q_ := c0p
         first
           | exact ⟨_, res1 rfl rfl, congrArg Value.bool (dec_eq ⟨fun hd => (fit0 c0p).2 ⟨g22p, of_decide_eq_true hd, g30p, by omega⟩, fun hh => decide_eq_true (by have h_ := (fit0 c0p).1 hh; exact h_.2.1)⟩), H2.pm (by repeat (first | exact Pm.nil _ | constructor))⟩
           | exact ⟨_, res1 rfl rfl, congrArg Value.bool (dec_f fun hh => by (have h_ := (fit0 c0p).1 hh; first | omega | exact g22p h_.1)).symm, H2.pm (by repeat (first | exact Pm.nil _ | constructor))⟩)
      | (have q_ := c1p
         first
           | exact ⟨_, res1 rfl rfl, congrArg Value.bool (dec_eq ⟨fun hd => (fit1 c1p).2 ⟨g39p, g47p, of_decide_eq_true hd, by omega⟩, fun hh => decide_eq_true (by have h_ := (fit1 c1p).1 hh; exact h_.2.2.1)⟩), H2.pm (by repeat (first | exact Pm.nil _ | constructor))⟩
           | exact ⟨_, res1 rfl rfl, congrArg Value.bool (dec_f fun hh => by (have h_ := (fit1 c1p).1 hh; first | omega | exact g39p h_.1)).symm, H2.pm (by repeat (first | exact Pm.nil _ | constructor))⟩)
      | (have q_ := c2p
         first
           | exact ⟨_, res1 rfl rfl, congrArg Value.bool (dec_eq ⟨fun hd => (fit2 c2p).2 ⟨g56p, of_decide_eq_true hd, by omega⟩, fun hh => decide_eq_true (by have h_ := (fit2 c2p).1 hh; exact h_.2.1)⟩), H2.pm (by repeat (first | exact Pm.nil _ | constructor))⟩
           | exact ⟨_, res1 rfl rfl, congrArg Value.bool (dec_f fun hh => by (have h_ := (fit2 c2p).1 hh; first | omega | exact g56p h_.1)).symm, H2.pm (by repeat (first | exact Pm.nil _ | constructor))⟩)
      | (have q_ := c6
         exact ⟨_, res1 rfl rfl, congrArg Value.bool (dec_f fun hh => of_ndec (of_n_t c6) ((fitNs_iff _ _).1 ((fit3_f c3p hp).1 hh).2.2.2 i hin)).symm, H2.pm (by repeat (first | exact Pm.nil _ | constructor))⟩)
      | (have q_ := c5p
         exact ⟨_, res1 rfl rfl, congrArg Value.bool (dec_t ((fit3_f c3p hp).2 ⟨g81p, c4p, by omega, (fitNs_iff _ _).2 fun j hj => ha j (by omega)⟩)).symm, H2.pm (by repeat (first | exact Pm.nil _ | constructor))⟩)
      | (have q_ := c3p
         exact ⟨_, res1 rfl rfl, congrArg Value.bool (dec_f fun hh => by
           obtain ⟨p', hp', h1_, h2_, h3_, _⟩ := (fit3 c3p).1 hh
           first
             | (rw [hp'] at g76p; cases g76p; done)
             | (rw [hp] at hp'; cases hp'; first | exact g81p h1_ | omega)).symm, H2.pm (by repeat (first | exact Pm.nil _ | constructor))⟩)
      | exact ⟨_, res1 rfl rfl, congrArg Value.bool (dec_f (fitx c0p c1p c2p c3p)).symm, H2.pm (by repeat (first | exact Pm.nil _ | constructor))⟩
   have g56p := oT g56
   refine wM ?_
   refine wV (v_pick_t rfl g56 rfl) ?_
   refine wM ?_
   refine wl_guard rfl rfl rfl (fun g59 => ?_) (fun g59 => ?_)
   rotate_left
   ·have g59p := oF g59
    refine wF g59 ?_
    refine wF g59 ?_
    refine wV (v_pick_f rfl g59 rfl) ?_
    refine wA ?_
    refine wl_nil ?_
    refine wc_ret ?_
    first
      | (have q_ := c0p
         first
           | exact ⟨_, res1 rfl rfl, congrArg Value.bool (dec_eq ⟨fun hd => (fit0 c0p).2 ⟨g22p, of_decide_eq_true hd, g30p, by omega⟩, fun hh => decide_eq_true (by have h_ := (fit0 c0p).1 hh; exact h_.2.1)⟩), H2.pm (by repeat (first | exact Pm.nil _ | constructor))⟩
           | exact ⟨_, res1 rfl rfl, congrArg Value.bool (dec_f fun hh => by (have h_ := (fit0 c0p).1 hh; first | omega | exact g22p h_.1)).symm, H2.pm (by repeat (first | exact Pm.nil _ | constructor))⟩)
      | (have q_ := c1p
         first
           | exact ⟨_, res1 rfl rfl, congrArg Value.bool (dec_eq ⟨fun hd => (fit1 c1p).2 ⟨g39p, g47p, of_decide_eq_true hd, by omega⟩, fun hh => decide_eq_true (by have h_ := (fit1 c1p).1 hh; exact h_.2.2.1)⟩), H2.pm (by repeat (first | exact Pm.nil _ | constructor))⟩
           | exact ⟨_, res1 rfl rfl, congrArg Value.bool (dec_f fun hh => by (have h_ := (fit1 c1p).1 hh; first | omega | exact g39p h_.1)).symm, H2.pm (by repeat (first | exact Pm.nil _ | constructor))⟩)
      | (have q_ := c2p
         first
           | exact ⟨_, res1 rfl rfl, congrArg Value.bool (dec_eq ⟨fun hd => (fit2 c2p).2 ⟨g56p, of_decide_eq_true hd, by omega⟩, fun hh => decide_eq_true (by have h_ := (fit2 c2p).1 hh; exact h_.2.1)⟩), H2.pm (by repeat (first | exact Pm.nil _ | constructor))⟩
           | exact ⟨_, res1 rfl rfl, congrArg Value.bool (dec_f fun hh => by (have h_ := (fit2 c2p).1 hh; first | omega | exact g56p h_.1)).symm, H2.pm (by repeat (first | exact Pm.nil _ | constructor))⟩)
      | (have q_ := c6
         exact ⟨_, res1 rfl rfl, congrArg Value.bool (dec_f fun hh => of_ndec (of_n_t c6) ((fitNs_iff _ _).1 ((fit3_f c3p hp).1 hh).2.2.2 i hin)).symm, H2.pm (by repeat (first | exact Pm.nil _ | constructor))⟩)
      | (have q_ := c5p
         exact ⟨_, res1 rfl rfl, congrArg Value.bool (dec_t ((fit3_f c3p hp).2 ⟨g81p, c4p, by omega, (fitNs_iff _ _).2 fun j hj => ha j (by omega)⟩)).symm, H2.pm (by repeat (first | exact Pm.nil _ | constructor))⟩)
      | (have q_ := c3p
         exact ⟨_, res1 rfl rfl, congrArg Value.bool (dec_f fun hh => by
           obtain ⟨p', hp', h1_, h2_, h3_, _⟩ := (fit3 c3p).1 hh
           first
             | (rw [hp'] at g76p; cases g76p; done)
             | (rw [hp] at hp'; cases hp'; first | exact g81p h1_ | omega)).symm, H2.pm (by repeat (first | exact Pm.nil _ | constructor))⟩)
      | exact ⟨_, res1 rfl rfl, congrArg Value.bool (dec_f (fitx c0p c1p c2p c3p)).symm, H2.pm (by repeat (first | exact Pm.nil _ | constructor))⟩
   have g59p := oT g59
   refine wV (v_fb (o2 := 2) fa24_2 rfl rfl) ?_
   refine wO g59 ?_
   refine wV (v_load one3 rfl (H2.at (by repeat constructor) rfl)) ?_
   refine wO g59 ?_
   refine wV (v_eql rfl rfl) ?_
   refine wV (v_pick_t rfl g59 rfl) ?_
   refine wA ?_
   refine wl_nil ?_
   refine wc_ret ?_
   first
     | (have q_ := c0p
        first
          | exact ⟨_, res1 rfl rfl, congrArg Value.bool (dec_eq ⟨fun hd => (fit0 c0p).2 ⟨g22p, of_decide_eq_true hd, g30p, by omega⟩, fun hh => decide_eq_true (by have h_ := (fit0 c0p).1 hh; exact h_.2.1)⟩), H2.pm (by repeat (first | exact Pm.nil _ | constructor))⟩
          | exact ⟨_, res1 rfl rfl, congrArg Value.bool (dec_f fun hh => by (have h_ := (fit0 c0p).1 hh; first | omega | exact g22p h_.1)).symm, H2.pm (by repeat (first | exact Pm.nil _ | constructor))⟩)
     | (have q_ := c1p
        first
          | exact ⟨_, res1 rfl rfl, congrArg Value.bool (dec_eq ⟨fun hd => (fit1 c1p).2 ⟨g39p, g47p, of_decide_eq_true hd, by omega⟩, fun hh => decide_eq_true (by have h_ := (fit1 c1p).1 hh; exact h_.2.2.1)⟩), H2.pm (by repeat (first | exact Pm.nil _ | constructor))⟩
          | exact ⟨_, res1 rfl rfl, congrArg Value.bool (dec_f fun hh => by (have h_ := (fit1 c1p).1 hh; first | omega | exact g39p h_.1)).symm, H2.pm (by repeat (first | exact Pm.nil _ | constructor))⟩)
     | (have q_ := c2p
        first
          | exact ⟨_, res1 rfl rfl, congrArg Value.bool (dec_eq ⟨fun hd => (fit2 c2p).2 ⟨g56p, of_decide_eq_true hd, by omega⟩, fun hh => decide_eq_true (by have h_ := (fit2 c2p).1 hh; exact h_.2.1)⟩), H2.pm (by repeat (first | exact Pm.nil _ | constructor))⟩
          | exact ⟨_, res1 rfl rfl, congrArg Value.bool (dec_f fun hh => by (have h_ := (fit2 c2p).1 hh; first | omega | exact g56p h_.1)).symm, H2.pm (by repeat (first | exact Pm.nil _ | constructor))⟩)
     | (have q_ := c6
        exact ⟨_, res1 rfl rfl, congrArg Value.bool (dec_f fun hh => of_ndec (of_n_t c6) ((fitNs_iff _ _).1 ((fit3_f c3p hp).1 hh).2.2.2 i hin)).symm, H2.pm (by repeat (first | exact Pm.nil _ | constructor))⟩)
     | (have q_ := c5p
        exact ⟨_, res1 rfl rfl, congrArg Value.bool (dec_t ((fit3_f c3p hp).2 ⟨g81p, c4p, by omega, (fitNs_iff _ _).2 fun j hj => ha j (by omega)⟩)).symm, H2.pm (by repeat (first | exact Pm.nil _ | constructor))⟩)
     | (have q_ := c3p
        exact ⟨_, res1 rfl rfl, congrArg Value.bool (dec_f fun hh => by
          obtain ⟨p', hp', h1_, h2_, h3_, _⟩ := (fit3 c3p).1 hh
          first
            | (rw [hp'] at g76p; cases g76p; done)
            | (rw [hp] at hp'; cases hp'; first | exact g81p h1_ | omega)).symm, H2.pm (by repeat (first | exact Pm.nil _ | constructor))⟩)
     | exact ⟨_, res1 rfl rfl, congrArg Value.bool (dec_f (fitx c0p c1p c2p c3p)).symm, H2.pm (by repeat (first | exact Pm.nil _ | constructor))⟩
  have c2p := oF c2
  refine wcR ?_
  refine wV (v_eql rfl rfl) ?_
  refine wA ?_
  refine wl_nil ?_
  refine wc_cond rfl (fun c3 => ?_) (fun c3 => ?_)
  rotate_left
  ·have c3p := oF c3
   refine wc_skip ?_
   refine wcR ?_
   refine wA ?_
   refine wl_nil ?_
   refine wc_ret ?_
   first
     | (have q_ := c0p
        first
          | exact ⟨_, res1 rfl rfl, congrArg Value.bool (dec_eq ⟨fun hd => (fit0 c0p).2 ⟨g22p, of_decide_eq_true hd, g30p, by omega⟩, fun hh => decide_eq_true (by have h_ := (fit0 c0p).1 hh; exact h_.2.1)⟩), H2.pm (by repeat (first | exact Pm.nil _ | constructor))⟩
          | exact ⟨_, res1 rfl rfl, congrArg Value.bool (dec_f fun hh => by (have h_ := (fit0 c0p).1 hh; first | omega | exact g22p h_.1)).symm, H2.pm (by repeat (first | exact Pm.nil _ | constructor))⟩)
     | (have q_ := c1p
        first
          | exact ⟨_, res1 rfl rfl, congrArg Value.bool (dec_eq ⟨fun hd => (fit1 c1p).2 ⟨g39p, g47p, of_decide_eq_true hd, by omega⟩, fun hh => decide_eq_true (by have h_ := (fit1 c1p).1 hh; exact h_.2.2.1)⟩), H2.pm (by repeat (first | exact Pm.nil _ | constructor))⟩
          | exact ⟨_, res1 rfl rfl, congrArg Value.bool (dec_f fun hh => by (have h_ := (fit1 c1p).1 hh; first | omega | exact g39p h_.1)).symm, H2.pm (by repeat (first | exact Pm.nil _ | constructor))⟩)
     | (have q_ := c2p
        first
          | exact ⟨_, res1 rfl rfl, congrArg Value.bool (dec_eq ⟨fun hd => (fit2 c2p).2 ⟨g56p, of_decide_eq_true hd, by omega⟩, fun hh => decide_eq_true (by have h_ := (fit2 c2p).1 hh; exact h_.2.1)⟩), H2.pm (by repeat (first | exact Pm.nil _ | constructor))⟩
          | exact ⟨_, res1 rfl rfl, congrArg Value.bool (dec_f fun hh => by (have h_ := (fit2 c2p).1 hh; first | omega | exact g56p h_.1)).symm, H2.pm (by repeat (first | exact Pm.nil _ | constructor))⟩)
     | (have q_ := c6
        exact ⟨_, res1 rfl rfl, congrArg Value.bool (dec_f fun hh => of_ndec (of_n_t c6) ((fitNs_iff _ _).1 ((fit3_f c3p hp).1 hh).2.2.2 i hin)).symm, H2.pm (by repeat (first | exact Pm.nil _ | constructor))⟩)
     | (have q_ := c5p
        exact ⟨_, res1 rfl rfl, congrArg Value.bool (dec_t ((fit3_f c3p hp).2 ⟨g81p, c4p, by omega, (fitNs_iff _ _).2 fun j hj => ha j (by omega)⟩)).symm, H2.pm (by repeat (first | exact Pm.nil _ | constructor))⟩)
     | (have q_ := c3p
        exact ⟨_, res1 rfl rfl, congrArg Value.bool (dec_f fun hh => by
          obtain ⟨p', hp', h1_, h2_, h3_, _⟩ := (fit3 c3p).1 hh
          first
            | (rw [hp'] at g76p; cases g76p; done)
            | (rw [hp] at hp'; cases hp'; first | exact g81p h1_ | omega)).symm, H2.pm (by repeat (first | exact Pm.nil _ | constructor))⟩)
     | exact ⟨_, res1 rfl rfl, congrArg Value.bool (dec_f (fitx c0p c1p c2p c3p)).symm, H2.pm (by repeat (first | exact Pm.nil _ | constructor))⟩
  have c3p := oT c3
  refine wcR ?_
  refine wM ?_
  refine wV (v_fb (o2 := 1) fa24_1 rfl rfl) ?_
  refine wV (v_load one9 rfl (H2.at (by repeat constructor) rfl)) ?_
  refine wl_call en77 rfl rfl (rctor_calls hl hd H2) ?_
  rintro _ w3 ⟨q9, nm9, R9, k9, rfl, hq, Hc⟩
  refine wM ?_
  refine wV (v_extract rfl rfl) ?_
  refine wV (v_extract rfl rfl) ?_
  refine wV (v_extract rfl rfl) ?_
  refine wl_alloc (cs := [.string ⟨#[]⟩, .slice none 0 0]) Hc rfl zv80 rfl ?_
  intro b9 w4 hb9 H5
  refine wA ?_
  refine wl_store (vs := [_, _]) H5 (by repeat constructor) sz80 rfl rfl rfl rfl rfl (by (repeat constructor)) ?_
  intro w6 H7 hw6
  refine wA ?_
  refine wl_nil ?_
  refine wc_seq ?_
  refine wcR ?_
  refine wM ?_
  refine wV (v_not rfl) ?_
  refine wM ?_
  refine wl_guard rfl rfl rfl (fun g76 => ?_) (fun g76 => ?_)
  rotate_left
  ·have g76p := of_n_t g76
   refine wF g76 ?_
   refine wF g76 ?_
   refine wV (v_pick_t rfl g76 rfl) ?_
   refine wM ?_
   refine wF rfl ?_
   refine wF rfl ?_
   refine wF rfl ?_
   refine wF rfl ?_
   refine wF rfl ?_
   refine wF rfl ?_
   refine wF rfl ?_
   refine wV (v_pick_t rfl rfl rfl) ?_
   refine wM ?_
   refine wF rfl ?_
   refine wF rfl ?_
   refine wF rfl ?_
   refine wV (v_pick_t rfl rfl rfl) ?_
   refine wl_nil ?_
   refine wc_cond_t rfl ?_
   refine wcR ?_
   refine wA ?_
   refine wl_nil ?_
   refine wc_ret ?_
   first
     | (have q_ := c0p
        first
          | exact ⟨_, res1 rfl rfl, congrArg Value.bool (dec_eq ⟨fun hd => (fit0 c0p).2 ⟨g22p, of_decide_eq_true hd, g30p, by omega⟩, fun hh => decide_eq_true (by have h_ := (fit0 c0p).1 hh; exact h_.2.1)⟩), H7.pm (by repeat (first | exact Pm.nil _ | constructor))⟩
          | exact ⟨_, res1 rfl rfl, congrArg Value.bool (dec_f fun hh => by (have h_ := (fit0 c0p).1 hh; first | omega | exact g22p h_.1)).symm, H7.pm (by repeat (first | exact Pm.nil _ | constructor))⟩)
     | (have q_ := c1p
        first
          | exact ⟨_, res1 rfl rfl, congrArg Value.bool (dec_eq ⟨fun hd => (fit1 c1p).2 ⟨g39p, g47p, of_decide_eq_true hd, by omega⟩, fun hh => decide_eq_true (by have h_ := (fit1 c1p).1 hh; exact h_.2.2.1)⟩), H7.pm (by repeat (first | exact Pm.nil _ | constructor))⟩
          | exact ⟨_, res1 rfl rfl, congrArg Value.bool (dec_f fun hh => by (have h_ := (fit1 c1p).1 hh; first | omega | exact g39p h_.1)).symm, H7.pm (by repeat (first | exact Pm.nil _ | constructor))⟩)
     | (have q_ := c2p
        first
          | exact ⟨_, res1 rfl rfl, congrArg Value.bool (dec_eq ⟨fun hd => (fit2 c2p).2 ⟨g56p, of_decide_eq_true hd, by omega⟩, fun hh => decide_eq_true (by have h_ := (fit2 c2p).1 hh; exact h_.2.1)⟩), H7.pm (by repeat (first | exact Pm.nil _ | constructor))⟩
          | exact ⟨_, res1 rfl rfl, congrArg Value.bool (dec_f fun hh => by (have h_ := (fit2 c2p).1 hh; first | omega | exact g56p h_.1)).symm, H7.pm (by repeat (first | exact Pm.nil _ | constructor))⟩)
     | (have q_ := c6
        exact ⟨_, res1 rfl rfl, congrArg Value.bool (dec_f fun hh => of_ndec (of_n_t c6) ((fitNs_iff _ _).1 ((fit3_f c3p hp).1 hh).2.2.2 i hin)).symm, H7.pm (by repeat (first | exact Pm.nil _ | constructor))⟩)
     | (have q_ := c5p
        exact ⟨_, res1 rfl rfl, congrArg Value.bool (dec_t ((fit3_f c3p hp).2 ⟨g81p, c4p, by omega, (fitNs_iff _ _).2 fun j hj => ha j (by omega)⟩)).symm, H7.pm (by repeat (first | exact Pm.nil _ | constructor))⟩)
     | (have q_ := c3p
        exact ⟨_, res1 rfl rfl, congrArg Value.bool (dec_f fun hh => by
          obtain ⟨p', hp', h1_, h2_, h3_, _⟩ := (fit3 c3p).1 hh
          first
            | (rw [hp'] at g76p; cases g76p; done)
            | (rw [hp] at hp'; cases hp'; first | exact g81p h1_ | omega)).symm, H7.pm (by repeat (first | exact Pm.nil _ | constructor))⟩)
     | exact ⟨_, res1 rfl rfl, congrArg Value.bool (dec_f (fitx c0p c1p c2p c3p)).symm, H7.pm (by repeat (first | exact Pm.nil _ | constructor))⟩
  have g76p := of_n_f g76
  obtain ⟨p, hp⟩ := Option.isSome_iff_exists.1 g76p
  obtain ⟨e1_, e2_, hq1, hq2⟩ := hq p hp
  rw [show (Value.string nm9) = .string p.1 by rw [e1_]]
  subst e2_
  refine wM ?_
  refine wO g76 ?_
  refine wM ?_
  refine wO g76 ?_
  refine wV (v_neqs rfl rfl) ?_
  refine wV (v_pick_f rfl g76 rfl) ?_
  refine wM ?_
  refine wl_guard rfl rfl rfl (fun g81 => ?_) (fun g81 => ?_)
  rotate_left
  ·have g81p := of_nd_t g81
   refine wF g81 ?_
   refine wF g81 ?_
   refine wF g81 ?_
   refine wF g81 ?_
   refine wF g81 ?_
   refine wF g81 ?_
   refine wV (v_pick_t rfl g81 rfl) ?_
   refine wM ?_
   refine wF rfl ?_
   refine wF rfl ?_
   refine wF rfl ?_
   refine wV (v_pick_t rfl rfl rfl) ?_
   refine wl_nil ?_
   refine wc_cond_t rfl ?_
   refine wcR ?_
   refine wA ?_
   refine wl_nil ?_
   refine wc_ret ?_
   first
     | (have q_ := c0p
        first
          | exact ⟨_, res1 rfl rfl, congrArg Value.bool (dec_eq ⟨fun hd => (fit0 c0p).2 ⟨g22p, of_decide_eq_true hd, g30p, by omega⟩, fun hh => decide_eq_true (by have h_ := (fit0 c0p).1 hh; exact h_.2.1)⟩), H7.pm (by repeat (first | exact Pm.nil _ | constructor))⟩
          | exact ⟨_, res1 rfl rfl, congrArg Value.bool (dec_f fun hh => by (have h_ := (fit0 c0p).1 hh; first | omega | exact g22p h_.1)).symm, H7.pm (by repeat (first | exact Pm.nil _ | constructor))⟩)
     | (have q_ := c1p
        first
          | exact ⟨_, res1 rfl rfl, congrArg Value.bool (dec_eq ⟨fun hd => (fit1 c1p).2 ⟨g39p, g47p, of_decide_eq_true hd, by omega⟩, fun hh => decide_eq_true (by have h_ := (fit1 c1p).1 hh; exact h_.2.2.1)⟩), H7.pm (by repeat (first | exact Pm.nil _ | constructor))⟩
          | exact ⟨_, res1 rfl rfl, congrArg Value.bool (dec_f fun hh => by (have h_ := (fit1 c1p).1 hh; first | omega | exact g39p h_.1)).symm, H7.pm (by repeat (first | exact Pm.nil _ | constructor))⟩)
     | (have q_ := c2p
        first
          | exact ⟨_, res1 rfl rfl, congrArg Value.bool (dec_eq ⟨fun hd => (fit2 c2p).2 ⟨g56p, of_decide_eq_true hd, by omega⟩, fun hh => decide_eq_true (by have h_ := (fit2 c2p).1 hh; exact h_.2.1)⟩), H7.pm (by repeat (first | exact Pm.nil _ | constructor))⟩
          | exact ⟨_, res1 rfl rfl, congrArg Value.bool (dec_f fun hh => by (have h_ := (fit2 c2p).1 hh; first | omega | exact g56p h_.1)).symm, H7.pm (by repeat (first | exact Pm.nil _ | constructor))⟩)
     | (have q_ := c6
        exact ⟨_, res1 rfl rfl, congrArg Value.bool (dec_f fun hh => of_ndec (of_n_t c6) ((fitNs_iff _ _).1 ((fit3_f c3p hp).1 hh).2.2.2 i hin)).symm, H7.pm (by repeat (first | exact Pm.nil _ | constructor))⟩)
     | (have q_ := c5p
        exact ⟨_, res1 rfl rfl, congrArg Value.bool (dec_t ((fit3_f c3p hp).2 ⟨g81p, c4p, by omega, (fitNs_iff _ _).2 fun j hj => ha j (by omega)⟩)).symm, H7.pm (by repeat (first | exact Pm.nil _ | constructor))⟩)
     | (have q_ := c3p
        exact ⟨_, res1 rfl rfl, congrArg Value.bool (dec_f fun hh => by
          obtain ⟨p', hp', h1_, h2_, h3_, _⟩ := (fit3 c3p).1 hh
          first
            | (rw [hp'] at g76p; cases g76p; done)
            | (rw [hp] at hp'; cases hp'; first | exact g81p h1_ | omega)).symm, H7.pm (by repeat (first | exact Pm.nil _ | constructor))⟩)
     | exact ⟨_, res1 rfl rfl, congrArg Value.bool (dec_f (fitx c0p c1p c2p c3p)).symm, H7.pm (by repeat (first | exact Pm.nil _ | constructor))⟩
  have g81p := of_nd_f g81
  refine wV (v_fb (o2 := 1) fa80_1 rfl rfl) ?_
  refine wO g81 ?_
  refine wV (v_load one40 rfl (H7.at (by repeat constructor) rfl)) ?_
  refine wO g81 ?_
  refine wV (v_len Try.underlying40 rfl) ?_
  refine wO g81 ?_
  refine wV (v_fb (o2 := 3) fa24_3 rfl rfl) ?_
  refine wO g81 ?_
  refine wV (v_load one22 rfl (H7.at (by repeat constructor) rfl)) ?_
  refine wO g81 ?_
  refine wV (v_len Try.underlying22 rfl) ?_
  refine wO g81 ?_
  refine wV (v_neq rfl rfl) ?_
  refine wV (v_pick_f rfl g81 rfl) ?_
  refine wM ?_
  refine wl_guard rfl rfl rfl (fun g90 => ?_) (fun g90 => ?_)
  rotate_left
  ·have g90p := of_nd_t g90
   refine wF g90 ?_
   refine wF g90 ?_
   refine wV (v_pick_t rfl g90 rfl) ?_
   refine wl_nil ?_
   refine wc_cond_t rfl ?_
   refine wcR ?_
   refine wA ?_
   refine wl_nil ?_
   refine wc_ret ?_
   first
     | (have q_ := c0p
        first
          | exact ⟨_, res1 rfl rfl, congrArg Value.bool (dec_eq ⟨fun hd => (fit0 c0p).2 ⟨g22p, of_decide_eq_true hd, g30p, by omega⟩, fun hh => decide_eq_true (by have h_ := (fit0 c0p).1 hh; exact h_.2.1)⟩), H7.pm (by repeat (first | exact Pm.nil _ | constructor))⟩
          | exact ⟨_, res1 rfl rfl, congrArg Value.bool (dec_f fun hh => by (have h_ := (fit0 c0p).1 hh; first | omega | exact g22p h_.1)).symm, H7.pm (by repeat (first | exact Pm.nil _ | constructor))⟩)
     | (have q_ := c1p
        first
          | exact ⟨_, res1 rfl rfl, congrArg Value.bool (dec_eq ⟨fun hd => (fit1 c1p).2 ⟨g39p, g47p, of_decide_eq_true hd, by omega⟩, fun hh => decide_eq_true (by have h_ := (fit1 c1p).1 hh; exact h_.2.2.1)⟩), H7.pm (by repeat (first | exact Pm.nil _ | constructor))⟩
          | exact ⟨_, res1 rfl rfl, congrArg Value.bool (dec_f fun hh => by (have h_ := (fit1 c1p).1 hh; first | omega | exact g39p h_.1)).symm, H7.pm (by repeat (first | exact Pm.nil _ | constructor))⟩)
     | (have q_ := c2p
        first
          | exact ⟨_, res1 rfl rfl, congrArg Value.bool (dec_eq ⟨fun hd => (fit2 c2p).2 ⟨g56p, of_decide_eq_true hd, by omega⟩, fun hh => decide_eq_true (by have h_ := (fit2 c2p).1 hh; exact h_.2.1)⟩), H7.pm (by repeat (first | exact Pm.nil _ | constructor))⟩
          | exact ⟨_, res1 rfl rfl, congrArg Value.bool (dec_f fun hh => by (have h_ := (fit2 c2p).1 hh; first | omega | exact g56p h_.1)).symm, H7.pm (by repeat (first | exact Pm.nil _ | constructor))⟩)
     | (have q_ := c6
        exact ⟨_, res1 rfl rfl, congrArg Value.bool (dec_f fun hh => of_ndec (of_n_t c6) ((fitNs_iff _ _).1 ((fit3_f c3p hp).1 hh).2.2.2 i hin)).symm, H7.pm (by repeat (first | exact Pm.nil _ | constructor))⟩)
     | (have q_ := c5p
        exact ⟨_, res1 rfl rfl, congrArg Value.bool (dec_t ((fit3_f c3p hp).2 ⟨g81p, c4p, by omega, (fitNs_iff _ _).2 fun j hj => ha j (by omega)⟩)).symm, H7.pm (by repeat (first | exact Pm.nil _ | constructor))⟩)
     | (have q_ := c3p
        exact ⟨_, res1 rfl rfl, congrArg Value.bool (dec_f fun hh => by
          obtain ⟨p', hp', h1_, h2_, h3_, _⟩ := (fit3 c3p).1 hh
          first
            | (rw [hp'] at g76p; cases g76p; done)
            | (rw [hp] at hp'; cases hp'; first | exact g81p h1_ | omega)).symm, H7.pm (by repeat (first | exact Pm.nil _ | constructor))⟩)
     | exact ⟨_, res1 rfl rfl, congrArg Value.bool (dec_f (fitx c0p c1p c2p c3p)).symm, H7.pm (by repeat (first | exact Pm.nil _ | constructor))⟩
  have g90p := of_nd_f g90
  refine wV (v_fb (o2 := 2) fa24_2 rfl rfl) ?_
  refine wO g90 ?_
  refine wV (v_load one3 rfl (H7.at (by repeat constructor) rfl)) ?_
  refine wO g90 ?_
  refine wV (v_neq rfl rfl) ?_
  refine wV (v_pick_f rfl g90 rfl) ?_
  refine wl_nil ?_
  refine wc_cond rfl (fun c4 => ?_) (fun c4 => ?_)
  ·have c4p := of_nd_t c4
   refine wcR ?_
   refine wA ?_
   refine wl_nil ?_
   refine wc_ret ?_
   first
     | (have q_ := c0p
        first
          | exact ⟨_, res1 rfl rfl, congrArg Value.bool (dec_eq ⟨fun hd => (fit0 c0p).2 ⟨g22p, of_decide_eq_true hd, g30p, by omega⟩, fun hh => decide_eq_true (by have h_ := (fit0 c0p).1 hh; exact h_.2.1)⟩), H7.pm (by repeat (first | exact Pm.nil _ | constructor))⟩
          | exact ⟨_, res1 rfl rfl, congrArg Value.bool (dec_f fun hh => by (have h_ := (fit0 c0p).1 hh; first | omega | exact g22p h_.1)).symm, H7.pm (by repeat (first | exact Pm.nil _ | constructor))⟩)
     | (have q_ := c1p
        first
          | exact ⟨_, res1 rfl rfl, congrArg Value.bool (dec_eq ⟨fun hd => (fit1 c1p).2 ⟨g39p, g47p, of_decide_eq_true hd, by omega⟩, fun hh => decide_eq_true (by have h_ := (fit1 c1p).1 hh; exact h_.2.2.1)⟩), H7.pm (by repeat (first | exact Pm.nil _ | constructor))⟩
          | exact ⟨_, res1 rfl rfl, congrArg Value.bool (dec_f fun hh => by (have h_ := (fit1 c1p).1 hh; first | omega | exact g39p h_.1)).symm, H7.pm (by repeat (first | exact Pm.nil _ | constructor))⟩)
     | (have q_ := c2p
        first
          | exact ⟨_, res1 rfl rfl, congrArg Value.bool (dec_eq ⟨fun hd => (fit2 c2p).2 ⟨g56p, of_decide_eq_true hd, by omega⟩, fun hh => decide_eq_true (by have h_ := (fit2 c2p).1 hh; exact h_.2.1)⟩), H7.pm (by repeat (first | exact Pm.nil _ | constructor))⟩
          | exact ⟨_, res1 rfl rfl, congrArg Value.bool (dec_f fun hh => by (have h_ := (fit2 c2p).1 hh; first | omega | exact g56p h_.1)).symm, H7.pm (by repeat (first | exact Pm.nil _ | constructor))⟩)
     | (have q_ := c6
        exact ⟨_, res1 rfl rfl, congrArg Value.bool (dec_f fun hh => of_ndec (of_n_t c6) ((fitNs_iff _ _).1 ((fit3_f c3p hp).1 hh).2.2.2 i hin)).symm, H7.pm (by repeat (first | exact Pm.nil _ | constructor))⟩)
     | (have q_ := c5p
        exact ⟨_, res1 rfl rfl, congrArg Value.bool (dec_t ((fit3_f c3p hp).2 ⟨g81p, c4p, by omega, (fitNs_iff _ _).2 fun j hj => ha j (by omega)⟩)).symm, H7.pm (by repeat (first | exact Pm.nil _ | constructor))⟩)
     | (have q_ := c3p
        exact ⟨_, res1 rfl rfl, congrArg Value.bool (dec_f fun hh => by
          obtain ⟨p', hp', h1_, h2_, h3_, _⟩ := (fit3 c3p).1 hh
          first
            | (rw [hp'] at g76p; cases g76p; done)
            | (rw [hp] at hp'; cases hp'; first | exact g81p h1_ | omega)).symm, H7.pm (by repeat (first | exact Pm.nil _ | constructor))⟩)
     | exact ⟨_, res1 rfl rfl, congrArg Value.bool (dec_f (fitx c0p c1p c2p c3p)).symm, H7.pm (by repeat (first | exact Pm.nil _ | constructor))⟩
  have c4p := of_nd_f c4
  refine wc_skip ?_
  refine wc_seq ?_
  refine wcR ?_
  refine wA ?_
  refine wl_nil ?_
  refine wc_block ?_
  refine wc_loop (σ := Nat) (fun s => [(0, .slice A l.length cd), (4, .pointer (some ⟨b4, 0, none⟩)), (9, .pointer (some ⟨b9, 0, none⟩)), (11, .int .i64 s)]) (fun s W => (s ≤ t.kids.length ∧ ∀ j, j < s → fitN (flat l) (t.kids.getD j nd0) (p.2.fields.getD j s0)) ∧ Holds w [Blk b9 80 [.string p.2.name, .slice R9 p.2.fields.length k9], Blk b4 24 [.int .i64 t.x.kind, .string t.x.name, .int .i64 t.x.tok, .slice B t.kids.length k]] W) (fun s => t.kids.length - s) 0 (sc rfl (sc rfl (sc rfl (sc rfl (sn _))))) ⟨⟨Nat.zero_le _, upto0⟩, H7⟩ ?_
  rintro i W0 ⟨⟨hi, ha⟩, H⟩
  refine wc_seq ?_
  refine wcR ?_
  refine wM ?_
  refine wV (v_fb (o2 := 3) fa24_3 rfl rfl) ?_
  refine wV (v_load one22 rfl (H.at (by repeat constructor) rfl)) ?_
  refine wV (v_len Try.underlying22 rfl) ?_
  refine wV (v_lss rfl rfl) ?_
  refine wl_nil ?_
  refine wc_cond rfl (fun c5 => ?_) (fun c5 => ?_)
  rotate_left
  ·have c5p := oF c5
   refine wc_exit ?_
   refine wcR ?_
   refine wA ?_
   refine wl_nil ?_
   refine wc_ret ?_
   first
     | (have q_ := c0p
        first
          | exact ⟨_, res1 rfl rfl, congrArg Value.bool (dec_eq ⟨fun hd => (fit0 c0p).2 ⟨g22p, of_decide_eq_true hd, g30p, by omega⟩, fun hh => decide_eq_true (by have h_ := (fit0 c0p).1 hh; exact h_.2.1)⟩), H.pm (by repeat (first | exact Pm.nil _ | constructor))⟩
          | exact ⟨_, res1 rfl rfl, congrArg Value.bool (dec_f fun hh => by (have h_ := (fit0 c0p).1 hh; first | omega | exact g22p h_.1)).symm, H.pm (by repeat (first | exact Pm.nil _ | constructor))⟩)
     | (have q_ := c1p
        first
          | exact ⟨_, res1 rfl rfl, congrArg Value.bool (dec_eq ⟨fun hd => (fit1 c1p).2 ⟨g39p, g47p, of_decide_eq_true hd, by omega⟩, fun hh => decide_eq_true (by have h_ := (fit1 c1p).1 hh; exact h_.2.2.1)⟩), H.pm (by repeat (first | exact Pm.nil _ | constructor))⟩
          | exact ⟨_, res1 rfl rfl, congrArg Value.bool (dec_f fun hh => by (have h_ := (fit1 c1p).1 hh; first | omega | exact g39p h_.1)).symm, H.pm (by repeat (first | exact Pm.nil _ | constructor))⟩)
     | (have q_ := c2p
        first
          | exact ⟨_, res1 rfl rfl, congrArg Value.bool (dec_eq ⟨fun hd => (fit2 c2p).2 ⟨g56p, of_decide_eq_true hd, by omega⟩, fun hh => decide_eq_true (by have h_ := (fit2 c2p).1 hh; exact h_.2.1)⟩), H.pm (by repeat (first | exact Pm.nil _ | constructor))⟩
          | exact ⟨_, res1 rfl rfl, congrArg Value.bool (dec_f fun hh => by (have h_ := (fit2 c2p).1 hh; first | omega | exact g56p h_.1)).symm, H.pm (by repeat (first | exact Pm.nil _ | constructor))⟩)
     | (have q_ := c6
        exact ⟨_, res1 rfl rfl, congrArg Value.bool (dec_f fun hh => of_ndec (of_n_t c6) ((fitNs_iff _ _).1 ((fit3_f c3p hp).1 hh).2.2.2 i hin)).symm, H.pm (by repeat (first | exact Pm.nil _ | constructor))⟩)
     | (have q_ := c5p
        exact ⟨_, res1 rfl rfl, congrArg Value.bool (dec_t ((fit3_f c3p hp).2 ⟨g81p, c4p, by omega, (fitNs_iff _ _).2 fun j hj => ha j (by omega)⟩)).symm, H.pm (by repeat (first | exact Pm.nil _ | constructor))⟩)
     | (have q_ := c3p
        exact ⟨_, res1 rfl rfl, congrArg Value.bool (dec_f fun hh => by
          obtain ⟨p', hp', h1_, h2_, h3_, _⟩ := (fit3 c3p).1 hh
          first
            | (rw [hp'] at g76p; cases g76p; done)
            | (rw [hp] at hp'; cases hp'; first | exact g81p h1_ | omega)).symm, H.pm (by repeat (first | exact Pm.nil _ | constructor))⟩)
     | exact ⟨_, res1 rfl rfl, congrArg Value.bool (dec_f (fitx c0p c1p c2p c3p)).symm, H.pm (by repeat (first | exact Pm.nil _ | constructor))⟩
  have c5p := oT c5
  have hin : i < t.kids.length := by omega
  refine wc_skip ?_
  refine wc_seq ?_
  refine wc_block ?_
  refine wc_seq ?_
  refine wc_tree [0, 1, 2, 3, 4, 5, 6, 7, 8, 9, 10, 12] (fun W => Holds w [Blk b9 80 [.string p.2.name, .slice R9 p.2.fields.length k9], Blk b4 24 [.int .i64 t.x.kind, .string t.x.name, .int .i64 t.x.tok, .slice B t.kids.length k]] W) mixed ?_
  have Hd := H.drew
  have HSd : Holds w [Blk b9 80 [.string p.2.name, .slice R9 p.2.fields.length k9], Blk b4 24 [.int .i64 t.x.kind, .string t.x.name, .int .i64 t.x.tok, .slice B t.kids.length k]] _ := Hd.pm (by repeat constructor)
  refine wjV (k := 0) rfl HSd (fun W HW => v_move rfl) ?_
  refine wjV (k := 1) rfl HSd (fun W HW => v_fb (o2 := 3) fa24_3 rfl rfl) ?_
  refine wjV (k := 2) rfl HSd (fun W HW => v_load one22 rfl (HW.at (by repeat constructor) rfl)) ?_
  refine wjV (k := 3) rfl HSd (fun W HW => v_move rfl) ?_
  refine wjV (k := 4) rfl HSd (fun W HW => v_idx Try.underlying22 sz24 hr.ad rfl rfl (by omega) (by omega)) ?_
  obtain ⟨B107_, k107_, hc107_, hl107_, hr107_⟩ := hr.atTr nd0 (i := i) (by omega)
  refine wjV (k := 5) rfl HSd (fun W HW => v_loadN (cs := [.int .i64 (t.kids.getD i nd0).x.kind, .string (t.kids.getD i nd0).x.name, .int .i64 (t.kids.getD i nd0).x.tok, .slice B107_ (t.kids.getD i nd0).kids.length k107_]) agg24 rfl rfl (fun q_ u_ hu_ => HW.cell (hc107_ q_ u_ hu_))) ?_
  refine wjV (k := 6) rfl HSd (fun W HW => v_fb (o2 := 1) fa80_1 rfl rfl) ?_
  refine wjV (k := 7) rfl HSd (fun W HW => v_load one40 rfl (HW.at (by repeat constructor) rfl)) ?_
  refine wjV (k := 8) rfl HSd (fun W HW => v_move rfl) ?_
  refine wjV (k := 9) rfl HSd (fun W HW => v_idx Try.underlying40 sz9 hq2.ad rfl rfl (by omega) (by omega)) ?_
  refine wjV (k := 10) rfl HSd (fun W HW => v_load one9 rfl (HW.cell (hq2.at1sN (i := i) (by omega)))) ?_
  refine wj_t (k := 11) rfl (by kernel_rfl) ?_
  refine wl_call en54 rfl rfl (ih _ (getD_mem (z := nd0) hin) _ A _ cd _ _ (hd.below Hd.old) (hr107_.below Hd.old) (Tr.Alls_at nd0 hin hks)) ?_
  rintro _ w8 ⟨rfl, Hc⟩
  have H9 := Hd.call0 Hc
  have HS10 : Holds w [Blk b9 80 [.string p.2.name, .slice R9 p.2.fields.length k9], Blk b4 24 [.int .i64 t.x.kind, .string t.x.name, .int .i64 t.x.tok, .slice B t.kids.length k]] _ := H9.pm (by repeat constructor)
  refine wl_nil (tn ⟨fun _ => HS10, ?_⟩)
  refine wjV (k := 12) rfl HS10 (fun W HW => v_not rfl) ?_
  refine wj_done (by kernel_rfl) ?_
  refine wc_cond rfl (fun c6 => ?_) (fun c6 => ?_)
  rotate_left
  ·have c6p := of_n_f c6
   refine wc_skip ?_
   refine wc_region ?_
   refine wM ?_
   refine wV (v_addi rfl rfl (by omega)) ?_
   refine wA ?_
   refine wl_nil ?_
   exact ⟨i + 1, (sc rfl (sc rfl (sc rfl (sc rfl (sn _))))), ⟨⟨by omega, uptoS ha (of_dec (of_n_f c6))⟩, H9⟩, by omega⟩
  have c6p := of_n_t c6
  refine wcR ?_
  refine wA ?_
  refine wl_nil ?_
  refine wc_ret ?_
  first
    | (have q_ := c0p
       first
         | exact ⟨_, res1 rfl rfl, congrArg Value.bool (dec_eq ⟨fun hd => (fit0 c0p).2 ⟨g22p, of_decide_eq_true hd, g30p, by omega⟩, fun hh => decide_eq_true (by have h_ := (fit0 c0p).1 hh; exact h_.2.1)⟩), H9.pm (by repeat (first | exact Pm.nil _ | constructor))⟩
         | exact ⟨_, res1 rfl rfl, congrArg Value.bool (dec_f fun hh => by (have h_ := (fit0 c0p).1 hh; first | omega | exact g22p h_.1)).symm, H9.pm (by repeat (first | exact Pm.nil _ | constructor))⟩)
    | (have q_ := c1p
       first
         | exact ⟨_, res1 rfl rfl, congrArg Value.bool (dec_eq ⟨fun hd => (fit1 c1p).2 ⟨g39p, g47p, of_decide_eq_true hd, by omega⟩, fun hh => decide_eq_true (by have h_ := (fit1 c1p).1 hh; exact h_.2.2.1)⟩), H9.pm (by repeat (first | exact Pm.nil _ | constructor))⟩
         | exact ⟨_, res1 rfl rfl, congrArg Value.bool (dec_f fun hh => by (have h_ := (fit1 c1p).1 hh; first | omega | exact g39p h_.1)).symm, H9.pm (by repeat (first | exact Pm.nil _ | constructor))⟩)
    | (have q_ := c2p
       first
         | exact ⟨_, res1 rfl rfl, congrArg Value.bool (dec_eq ⟨fun hd => (fit2 c2p).2 ⟨g56p, of_decide_eq_true hd, by omega⟩, fun hh => decide_eq_true (by have h_ := (fit2 c2p).1 hh; exact h_.2.1)⟩), H9.pm (by repeat (first | exact Pm.nil _ | constructor))⟩
         | exact ⟨_, res1 rfl rfl, congrArg Value.bool (dec_f fun hh => by (have h_ := (fit2 c2p).1 hh; first | omega | exact g56p h_.1)).symm, H9.pm (by repeat (first | exact Pm.nil _ | constructor))⟩)
    | (have q_ := c6
       exact ⟨_, res1 rfl rfl, congrArg Value.bool (dec_f fun hh => of_ndec (of_n_t c6) ((fitNs_iff _ _).1 ((fit3_f c3p hp).1 hh).2.2.2 i hin)).symm, H9.pm (by repeat (first | exact Pm.nil _ | constructor))⟩)
    | (have q_ := c5p
       exact ⟨_, res1 rfl rfl, congrArg Value.bool (dec_t ((fit3_f c3p hp).2 ⟨g81p, c4p, by omega, (fitNs_iff _ _).2 fun j hj => ha j (by omega)⟩)).symm, H9.pm (by repeat (first | exact Pm.nil _ | constructor))⟩)
    | (have q_ := c3p
       exact ⟨_, res1 rfl rfl, congrArg Value.bool (dec_f fun hh => by
         obtain ⟨p', hp', h1_, h2_, h3_, _⟩ := (fit3 c3p).1 hh
         first
           | (rw [hp'] at g76p; cases g76p; done)
           | (rw [hp] at hp'; cases hp'; first | exact g81p h1_ | omega)).symm, H9.pm (by repeat (first | exact Pm.nil _ | constructor))⟩)
    | exact ⟨_, res1 rfl rfl, congrArg Value.bool (dec_f (fitx c0p c1p c2p c3p)).symm, H9.pm (by repeat (first | exact Pm.nil _ | constructor))⟩

theorem fit_calls {l : List Dt} (hl : DOk l) : ∀ t : Nd, FitOk l t := Tr.ind fun x kids ih => fun w A B cd k name hd hr hf => fit_step (t := .mk x kids) hl hd hr hf ih

set_option maxRecDepth 100000 in
theorem rtyped_calls {l : List Dt} {t : Nd} {A B : Option Addr} {cd k : Nat} {name : ByteArray} {w : World} (hl : DOk l) (hcd : l.length ≤ cd) (hd : Rd kDt w A l) (hr : Rd (kTr fNd) w B t.kids) (hf : t.All smallN) : Calls Try.prog 24 #[.slice A l.length cd, .agg #[.int .i64 t.x.kind, .string t.x.name, .int .i64 t.x.tok, .slice B t.kids.length k], .string name] w fun e w' => ∃ v, e = .returned v ∧ v = .bool (dec (TypedOk l t name)) ∧ Holds w [] w' := by
  refine calls_of Try.func24 rfl Try.ntmps24 rfl ?_
  have H := Holds.start w
  refine wcR ?_
  refine wl_box (cs := [_, _, _, _]) H rfl rfl rfl ?_
  intro b4 w1 hb4 H2
  refine wA ?_
  refine wl_nil ?_
  refine wcR ?_
  refine wM ?_
  refine wl_call en50 rfl rfl (rdatas_calls hl (hd.below H2.old) hcd) ?_
  rintro _ w3 ⟨rfl, Hc⟩
  have H4 := H2.call0 Hc
  refine wV (v_eql rfl rfl) ?_
  refine wM ?_
  refine wl_guard rfl rfl rfl (fun g10 => ?_) (fun g10 => ?_)
  rotate_left
  ·have g10p := oF g10
   refine wF g10 ?_
   refine wF g10 ?_
   refine wF g10 ?_
   refine wV (v_pick_f rfl g10 rfl) ?_
   refine wA ?_
   refine wl_nil ?_
   refine wc_ret ?_
   first
     | exact ⟨_, res1 rfl rfl, congrArg Value.bool (dec_iff ⟨fun h => ⟨g10p, h⟩, fun h => h.2⟩), H4.pm (Pm.nil _)⟩
     | exact ⟨_, res1 rfl rfl, congrArg Value.bool (dec_f fun hh => g10p hh.1).symm, H4.pm (Pm.nil _)⟩
  have g10p := oT g10
  refine wM ?_
  refine wO g10 ?_
  refine wV (v_loadN agg24 rfl rfl (H4.ats (by repeat constructor))) ?_
  refine wO g10 ?_
  refine wM ?_
  refine wO g10 ?_
  refine wl_call en54 rfl rfl (fit_calls hl t _ A _ cd _ _ (hd.below H4.old) (hr.below H4.old) hf) ?_
  rintro _ w5 ⟨rfl, Hc⟩
  have H6 := H4.call0 Hc
  refine wV (v_pick_t rfl g10 rfl) ?_
  refine wA ?_
  refine wl_nil ?_
  refine wc_ret ?_
  first
    | exact ⟨_, res1 rfl rfl, congrArg Value.bool (dec_iff ⟨fun h => ⟨g10p, h⟩, fun h => h.2⟩), H6.pm (Pm.nil _)⟩
    | exact ⟨_, res1 rfl rfl, congrArg Value.bool (dec_f fun hh => g10p hh.1).symm, H6.pm (Pm.nil _)⟩
end Go.Proofs.Ytgdemplcpcacaaa.RFit

/-! How many parts a node has. -/
namespace Go.Proofs.Ytgdemplcpcacaaa.PartsN
open Go Go.RowKit Go.Proofs.YtgdemplcpcacaaaFx 
theorem agg24 : Agg Try.prog 24 4 := agg_of Try.underlying24 (by kernel_rfl)
theorem en25 : Enters Try.prog 25 := enters Try.func25 (by kernel_rfl) rfl
theorem en26 : Enters Try.prog 26 := enters Try.func26 (by kernel_rfl) rfl
theorem fa24_3 : FieldAt Try.prog 24 3 3 := field_at (sz := 0) Try.underlying24 rfl (by kernel_rfl) rfl
theorem one22 : One Try.prog 22 := one_of Try.underlying22 rfl (by kernel_rfl)
theorem sz24 : ∀ W, (sizeOf 24).run Try.prog W = .ok 4 W := size_of (by kernel_rfl)
theorem zv24 : ∀ W, (zeroValue 24).run Try.prog W = .ok (.agg #[.int .i64 0, .string ⟨#[]⟩, .int .i64 0, .slice none 0 0]) W := zero_of (by kernel_rfl)

def ppartsOk (t : Nd) : Prop := ∀ (w : World) (A : Option Addr) (k : Nat) (hr : Rd (kTr fNd) w A t.kids) (hc : t.cnt ≤ 1099511627776), Calls Try.prog 25 #[.agg #[.int .i64 t.x.kind, .string t.x.name, .int .i64 t.x.tok, .slice A t.kids.length k]] w fun e w' => ∃ v, e = .returned v ∧ v = .int .i64 (t.cnt : Int) ∧ Holds w [] w'

set_option maxHeartbeats 1600000 in
set_option maxRecDepth 100000 in
theorem pparts_step {t : Nd} {w : World} {A : Option Addr} {k : Nat} (hr : Rd (kTr fNd) w A t.kids) (hc : t.cnt ≤ 1099511627776) (ih : ∀ t' ∈ t.kids, ppartsOk t') : Calls Try.prog 25 #[.agg #[.int .i64 t.x.kind, .string t.x.name, .int .i64 t.x.tok, .slice A t.kids.length k]] w fun e w' => ∃ v, e = .returned v ∧ v = .int .i64 (t.cnt : Int) ∧ Holds w [] w' := by
  have hcnt := Tr.cnt_eq t
  have hkl := Tr.cnts_len t.kids
  refine calls_of Try.func25 rfl Try.ntmps25 rfl ?_
  have H := Holds.start w
  refine wcR ?_
  refine wl_box (cs := [_, _, _, _]) H rfl rfl rfl ?_
  intro b1 w1 hb1 H2
  refine wA ?_
  refine wl_nil ?_
  refine wcR ?_
  refine wA ?_
  refine wl_nil ?_
  refine wc_seq ?_
  refine wcR ?_
  refine wV (v_fb (o2 := 3) fa24_3 rfl rfl) ?_
  refine wV (v_load one22 rfl (H2.at (by repeat constructor) rfl)) ?_
  refine wV (v_len Try.underlying22 rfl) ?_
  refine wM ?_
  refine wl_nil ?_
  refine wc_block ?_
  refine wc_loop (σ := Nat) (fun s => [(1, .pointer (some ⟨b1, 0, none⟩)), (3, .int .i64 ((1 + Tr.cnts (t.kids.take s) : Nat) : Int)), (7, .slice A t.kids.length k), (8, .int .i64 t.kids.length), (9, .int .i64 s)]) (fun s W => s ≤ t.kids.length ∧ Holds w [Blk b1 24 [.int .i64 t.x.kind, .string t.x.name, .int .i64 t.x.tok, .slice A t.kids.length k]] W) (fun s => t.kids.length - s) 0 (sc rfl (sc rfl (sc rfl (sc rfl (sc rfl (sn _)))))) ⟨Nat.zero_le _, H2⟩ ?_
  rintro i W0 ⟨hi, H⟩
  refine wcR ?_
  refine wV (v_lss rfl rfl) ?_
  refine wl_nil ?_
  refine wc_seq ?_
  refine wc_cond rfl (fun c0 => ?_) (fun c0 => ?_)
  rotate_left
  ·have c0p := oF c0
   refine wc_exit ?_
   refine wcR ?_
   refine wM ?_
   refine wA ?_
   refine wl_nil ?_
   refine wc_ret ?_
   have hie : t.kids.take i = t.kids := List.take_of_length_le (by omega)
   exact ⟨_, res1 rfl rfl, by rw [hie, hcnt], H.pm (Pm.nil _)⟩
  have c0p := oT c0
  have hin : i < t.kids.length := by omega
  have hs1 := Tr.cnts_succ nd0 t.kids i hin
  have hs2 := Tr.cnts_take t.kids (i + 1)
  refine wc_skip ?_
  refine wc_seq ?_
  refine wc_block ?_
  refine wcR ?_
  refine wV (v_idx Try.underlying22 sz24 hr.ad rfl rfl (by omega) (by omega)) ?_
  obtain ⟨B12_, k12_, hc12_, hl12_, hr12_⟩ := hr.atTr nd0 (i := i) (by omega)
  refine wV (v_loadN (cs := [.int .i64 (t.kids.getD i nd0).x.kind, .string (t.kids.getD i nd0).x.name, .int .i64 (t.kids.getD i nd0).x.tok, .slice B12_ (t.kids.getD i nd0).kids.length k12_]) agg24 rfl rfl (fun q_ u_ hu_ => H.cell (hc12_ q_ u_ hu_))) ?_
  refine wl_alloc (cs := [.int .i64 0, .string ⟨#[]⟩, .int .i64 0, .slice none 0 0]) H rfl zv24 rfl ?_
  intro b5 w4 hb5 H5
  refine wl_store (vs := [_, _, _, _]) H5 (by repeat constructor) sz24 rfl rfl rfl rfl rfl (by (repeat constructor)) ?_
  intro w6 H7 hw6
  refine wl_nil ?_
  refine wc_region ?_
  refine wM ?_
  refine wV (v_loadN agg24 rfl rfl (H7.ats (by repeat constructor))) ?_
  refine wl_call en25 rfl rfl (ih _ (getD_mem (z := nd0) hin) _ _ _ (hr12_.below H7.old) (by omega)) ?_
  rintro _ w8 ⟨rfl, Hc⟩
  have H9 := H7.call0 Hc
  refine wV (v_addi rfl rfl (by omega)) ?_
  refine wA ?_
  refine wl_nil ?_
  refine wc_region ?_
  refine wV (v_addi rfl rfl (by omega)) ?_
  refine wM ?_
  refine wl_nil ?_
  exact ⟨i + 1, (by rw [show ((1 + Tr.cnts (t.kids.take (i + 1)) : Nat) : Int) = ((1 + Tr.cnts (t.kids.take i) : Nat) : Int) + (((t.kids.getD i nd0).cnt : Nat) : Int) by omega]; exact (sc rfl (sc rfl (sc rfl (sc rfl (sc rfl (sn _))))))), ⟨by omega, H9.pm (by repeat constructor)⟩, by omega⟩

theorem pparts_calls : ∀ t : Nd, ppartsOk t := Tr.ind fun x kids ih => fun w A k hr hc => pparts_step (t := .mk x kids) hr hc ih

def rpartsOk (t : Nd) : Prop := ∀ (w : World) (A : Option Addr) (k : Nat) (hr : Rd (kTr fNd) w A t.kids) (hc : t.cnt ≤ 1099511627776), Calls Try.prog 26 #[.agg #[.int .i64 t.x.kind, .string t.x.name, .int .i64 t.x.tok, .slice A t.kids.length k]] w fun e w' => ∃ v, e = .returned v ∧ v = .int .i64 (t.cnt : Int) ∧ Holds w [] w'

set_option maxHeartbeats 1600000 in
set_option maxRecDepth 100000 in
theorem rparts_step {t : Nd} {w : World} {A : Option Addr} {k : Nat} (hr : Rd (kTr fNd) w A t.kids) (hc : t.cnt ≤ 1099511627776) (ih : ∀ t' ∈ t.kids, rpartsOk t') : Calls Try.prog 26 #[.agg #[.int .i64 t.x.kind, .string t.x.name, .int .i64 t.x.tok, .slice A t.kids.length k]] w fun e w' => ∃ v, e = .returned v ∧ v = .int .i64 (t.cnt : Int) ∧ Holds w [] w' := by
  have hcnt := Tr.cnt_eq t
  have hkl := Tr.cnts_len t.kids
  refine calls_of Try.func26 rfl Try.ntmps26 rfl ?_
  have H := Holds.start w
  refine wcR ?_
  refine wl_box (cs := [_, _, _, _]) H rfl rfl rfl ?_
  intro b1 w1 hb1 H2
  refine wA ?_
  refine wl_nil ?_
  refine wcR ?_
  refine wA ?_
  refine wl_nil ?_
  refine wc_seq ?_
  refine wcR ?_
  refine wA ?_
  refine wl_nil ?_
  refine wc_block ?_
  refine wc_loop (σ := Nat) (fun s => [(1, .pointer (some ⟨b1, 0, none⟩)), (3, .int .i64 ((1 + Tr.cnts (t.kids.take s) : Nat) : Int)), (4, .int .i64 s)]) (fun s W => s ≤ t.kids.length ∧ Holds w [Blk b1 24 [.int .i64 t.x.kind, .string t.x.name, .int .i64 t.x.tok, .slice A t.kids.length k]] W) (fun s => t.kids.length - s) 0 (sc rfl (sc rfl (sc rfl (sn _)))) ⟨Nat.zero_le _, H2⟩ ?_
  rintro i W0 ⟨hi, H⟩
  refine wc_seq ?_
  refine wcR ?_
  refine wM ?_
  refine wV (v_fb (o2 := 3) fa24_3 rfl rfl) ?_
  refine wV (v_load one22 rfl (H.at (by repeat constructor) rfl)) ?_
  refine wV (v_len Try.underlying22 rfl) ?_
  refine wV (v_lss rfl rfl) ?_
  refine wl_nil ?_
  refine wc_cond rfl (fun c0 => ?_) (fun c0 => ?_)
  rotate_left
  ·have c0p := oF c0
   refine wc_exit ?_
   refine wcR ?_
   refine wM ?_
   refine wA ?_
   refine wl_nil ?_
   refine wc_ret ?_
   have hie : t.kids.take i = t.kids := List.take_of_length_le (by omega)
   exact ⟨_, res1 rfl rfl, by rw [hie, hcnt], H.pm (Pm.nil _)⟩
  have c0p := oT c0
  have hin : i < t.kids.length := by omega
  have hs1 := Tr.cnts_succ nd0 t.kids i hin
  have hs2 := Tr.cnts_take t.kids (i + 1)
  refine wc_skip ?_
  refine wc_seq ?_
  refine wc_block ?_
  refine wc_region ?_
  refine wM ?_
  refine wV (v_fb (o2 := 3) fa24_3 rfl rfl) ?_
  refine wV (v_load one22 rfl (H.at (by repeat constructor) rfl)) ?_
  refine wM ?_
  refine wV (v_idx Try.underlying22 sz24 hr.ad rfl rfl (by omega) (by omega)) ?_
  obtain ⟨B17_, k17_, hc17_, hl17_, hr17_⟩ := hr.atTr nd0 (i := i) (by omega)
  refine wV (v_loadN (cs := [.int .i64 (t.kids.getD i nd0).x.kind, .string (t.kids.getD i nd0).x.name, .int .i64 (t.kids.getD i nd0).x.tok, .slice B17_ (t.kids.getD i nd0).kids.length k17_]) agg24 rfl rfl (fun q_ u_ hu_ => H.cell (hc17_ q_ u_ hu_))) ?_
  refine wl_call en26 rfl rfl (ih _ (getD_mem (z := nd0) hin) _ _ _ (hr17_.below H.old) (by omega)) ?_
  rintro _ w4 ⟨rfl, Hc⟩
  have H5 := H.call0 Hc
  refine wV (v_addi rfl rfl (by omega)) ?_
  refine wA ?_
  refine wl_nil ?_
  refine wc_region ?_
  refine wM ?_
  refine wV (v_addi rfl rfl (by omega)) ?_
  refine wA ?_
  refine wl_nil ?_
  exact ⟨i + 1, (by rw [show ((1 + Tr.cnts (t.kids.take (i + 1)) : Nat) : Int) = ((1 + Tr.cnts (t.kids.take i) : Nat) : Int) + (((t.kids.getD i nd0).cnt : Nat) : Int) by omega]; exact (sc rfl (sc rfl (sc rfl (sn _))))), ⟨by omega, H5.pm (by repeat constructor)⟩, by omega⟩

theorem rparts_calls : ∀ t : Nd, rpartsOk t := Tr.ind fun x kids ih => fun w A k hr hc => rparts_step (t := .mk x kids) hr hc ih
end Go.Proofs.Ytgdemplcpcacaaa.PartsN
