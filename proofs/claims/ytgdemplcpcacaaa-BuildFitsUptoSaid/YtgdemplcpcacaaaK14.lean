/- What may be data: the document's answer. Which trees are derivations: the document's answer. What came in, as it reads. Numbers, seven bits a byte: plain; bit operations and divisions. A table's bytes: plain. What came in, its rows' lengths together. -/
import Derived.Test.YtgdemplcpcacaaaProg
import Derived.Test.YtgdemplcpcacaaaK13
import Derived.Test.YtgdemplcpcacaaaK05
import Derived.Test.YtgdemplcpcacaaaK03
import Derived.Test.YtgdemplcpcacaaaK09
import Derived.Test.YtgdemplcpcacaaaRows
import Derived.Test.YtgdemplcpcacaaaK02
import Derived.WalkKit
import Derived.ProofKit
import Derived.OpenShut
import Derived.JoinedCond
import Derived.Deep.Slices
import Derived.Deep.Strs
import Derived.Lib.SmallJoins
import Derived.Carry
import Derived.WideShapes
import Derived.Laws.BitsLemmas
set_option linter.unusedVariables false
set_option linter.unusedSimpArgs false
/-! What may be data: the document's answer. -/
namespace Go.Proofs.Ytgdemplcpcacaaa.RDatas
open Go Go.RowKit Go.Proofs.YtgdemplcpcacaaaFx Go.Proofs.Ytgdemplcpcacaaa.RCtor Go.Proofs.Ytgdemplcpcacaaa.NameW
theorem en51 : Enters Try.prog 51 := enters Try.func51 (by kernel_rfl) rfl
theorem en74 : Enters Try.prog 74 := enters Try.func74 (by kernel_rfl) rfl
theorem fa80_0 : FieldAt Try.prog 80 0 0 := field_at (sz := 0) Try.underlying80 rfl (by kernel_rfl) rfl
theorem fa80_1 : FieldAt Try.prog 80 1 1 := field_at (sz := 0) Try.underlying80 rfl (by kernel_rfl) rfl
theorem fa83_0 : FieldAt Try.prog 83 0 0 := field_at (sz := 0) Try.underlying83 rfl (by kernel_rfl) rfl
theorem fa83_1 : FieldAt Try.prog 83 1 1 := field_at (sz := 0) Try.underlying83 rfl (by kernel_rfl) rfl
theorem info9 : (Try.prog.info? 9).map (fun i => (i.zero, i.size, i.bytes)) = some (some (.string ⟨#[]⟩), 1, 16) := by kernel_rfl
theorem mixed : Try.prog.follows .mixedOrders = true := by kernel_rfl
theorem one40 : One Try.prog 40 := one_of Try.underlying40 rfl (by kernel_rfl)
theorem one81 : One Try.prog 81 := one_of Try.underlying81 rfl (by kernel_rfl)
theorem one9 : One Try.prog 9 := one_of Try.underlying9 rfl (by kernel_rfl)
theorem sz80 : ∀ W, (sizeOf 80).run Try.prog W = .ok 2 W := size_of (by kernel_rfl)
theorem sz83 : ∀ W, (sizeOf 83).run Try.prog W = .ok 2 W := size_of (by kernel_rfl)
theorem sz9 : ∀ W, (sizeOf 9).run Try.prog W = .ok 1 W := size_of (by kernel_rfl)
theorem zv9 : ∀ W, (zeroValue 9).run Try.prog W = .ok (.string ⟨#[]⟩) W := zero_of (by kernel_rfl)

set_option maxHeartbeats 6400000 in
set_option maxRecDepth 100000 in
theorem rdatas_calls {l : List Dt} {A : Option Addr} {cd : Nat} {w : World} (hl : DOk l) (hr : Rd kDt w A l) (hcd : l.length ≤ cd) : Calls Try.prog 50 #[.slice A l.length cd] w fun e w' => ∃ v, e = .returned v ∧ v = .int .i64 (dataE l) ∧ Holds w [] w' := by
  have hll := hl.len
  have hlf := hl.f
  refine calls_of Try.func50 rfl Try.ntmps50 rfl ?_
  have H := Holds.start w
  refine wcR ?_
  refine wA ?_
  refine wl_nil ?_
  refine wcR ?_
  refine wA ?_
  refine wl_nil ?_
  refine wc_seq ?_
  refine wcR ?_
  refine wA ?_
  refine wl_nil ?_
  refine wc_block ?_
  refine wc_loop (σ := Nat × Option Addr × Nat) (fun q => [(0, .slice A l.length cd), (3, .slice q.2.1 (cnm (upC l q.1 0)).length q.2.2), (4, .int .i64 q.1)]) (fun q W => (q.1 ≤ l.length ∧ ∀ k, k < q.1 → dtOk l k) ∧ Holds w [Row fStr 9 (.slice q.2.1 (cnm (upC l q.1 0)).length q.2.2) (cnm (upC l q.1 0))] W) (fun q => l.length - q.1) (0, none, 0) (by rw [upC_zero]; exact (sc rfl (sc rfl (sc rfl (sn _))))) ⟨⟨Nat.zero_le _, upto0⟩, by rw [upC_zero]; exact H.nilrow 9 1⟩ ?_
  rintro ⟨i, Az, cz⟩ W0 ⟨⟨hi, ha⟩, H⟩
  dsimp only at hi ha H ⊢
  refine wc_seq ?_
  refine wcR ?_
  refine wM ?_
  refine wM ?_
  refine wV (v_len Try.underlying45 rfl) ?_
  refine wV (v_lss rfl rfl) ?_
  refine wl_nil ?_
  refine wc_cond rfl (fun c0 => ?_) (fun c0 => ?_)
  ·have c0p := oT c0
   have hin : i < l.length := by omega
   have hcl := hl.cl hin
   refine wc_skip ?_
   refine wc_seq ?_
   refine wc_block ?_
   refine wc_seq ?_
   refine wc_seq ?_
   refine wc_tree [0, 1, 2, 3, 4, 6, 7, 8, 9, 10, 11, 12, 13, 14, 15, 16, 17, 18, 19, 20, 21, 22, 23, 25, 26] (fun W => Holds w [Row fStr 9 (.slice Az (cnm (upC l i 0)).length cz) (cnm (upC l i 0))] W) mixed ?_
   have Hd := H.drew
   have HSd : Holds w [Row fStr 9 (.slice Az (cnm (upC l i 0)).length cz) (cnm (upC l i 0))] _ := Hd.pm (by repeat constructor)
   refine wjV (k := 0) rfl HSd (fun W HW => v_move rfl) ?_
   refine wjV (k := 1) rfl HSd (fun W HW => v_move rfl) ?_
   refine wjV (k := 2) rfl HSd (fun W HW => v_idx Try.underlying45 sz83 hr.ad rfl rfl (by omega) (by omega)) ?_
   refine wjV (k := 3) rfl HSd (fun W HW => v_fp fa83_0 rfl) ?_
   obtain ⟨R22_, c22_, hc22_, hl22_, hR22_⟩ := hr.atDt (i := i) (by omega)
   refine wjV (k := 4) rfl HSd (fun W HW => v_load one9 rfl (HW.cell (hc22_ 0 _ rfl))) ?_
   refine wj_t (k := 5) rfl (by kernel_rfl) ?_
   refine wl_call en74 rfl rfl (rword_calls (hl.nm hin)) ?_
   rintro _ w1 ⟨rfl, Hc⟩
   have H2 := Hd.call0 Hc
   have HS3 : Holds w [Row fStr 9 (.slice Az (cnm (upC l i 0)).length cz) (cnm (upC l i 0))] _ := H2.pm (by repeat constructor)
   refine wl_nil (tn ⟨fun _ => HS3, ?_⟩)
   refine wjV (k := 6) rfl HS3 (fun W HW => v_not rfl) ?_
   refine wjV (k := 7) rfl HS3 (fun W HW => v_move rfl) ?_
   refine wj_guard (dj := 25) rfl (fun g25 => ?_) (fun g25 => ?_)
   ·have g25p := of_n_t g25
    refine wj_off (k := 8) rfl (by kernel_rfl) (fun _ _ _ h => h) rfl rfl g25 HS3 rfl ?_
    refine wj_off (k := 9) rfl (by kernel_rfl) (fun _ _ _ h => h) rfl rfl g25 HS3 rfl ?_
    refine wj_off (k := 10) rfl (by kernel_rfl) (fun _ _ _ h => h) rfl rfl g25 HS3 rfl ?_
    refine wj_off (k := 11) rfl (by kernel_rfl) (fun _ _ _ h => h) rfl rfl g25 HS3 rfl ?_
    refine wj_off (k := 12) rfl (by kernel_rfl) (fun _ _ _ h => h) rfl rfl g25 HS3 rfl ?_
    refine wj_off (k := 13) rfl (by kernel_rfl) (fun _ _ _ h => h) rfl rfl g25 HS3 rfl ?_
    refine wjV (k := 14) rfl HS3 (fun W HW => v_pick_t rfl g25 rfl) ?_
    refine wjV (k := 15) rfl HS3 (fun W HW => v_move rfl) ?_
    refine wj_off (k := 16) rfl (by kernel_rfl) (fun _ _ _ h => h) rfl rfl rfl HS3 rfl ?_
    refine wj_off (k := 17) rfl (by kernel_rfl) (fun _ _ _ h => h) rfl rfl rfl HS3 rfl ?_
    refine wj_off (k := 18) rfl (by kernel_rfl) (fun _ _ _ h => h) rfl rfl rfl HS3 rfl ?_
    refine wj_off (k := 19) rfl (by kernel_rfl) (fun _ _ _ h => h) rfl rfl rfl HS3 rfl ?_
    refine wj_off (k := 20) rfl (by kernel_rfl) (fun _ _ _ h => h) rfl rfl rfl HS3 rfl ?_
    refine wj_off (k := 21) rfl (by kernel_rfl) (fun _ _ _ h => h) rfl rfl rfl HS3 rfl ?_
    refine wj_off (k := 22) rfl (by kernel_rfl) (fun _ _ _ h => h) rfl rfl rfl HS3 rfl ?_
    refine wj_off (k := 23) rfl (by kernel_rfl) (fun _ _ _ h => h) rfl rfl rfl HS3 rfl ?_
    refine wj_t (k := 24) rfl (by kernel_rfl) ?_
    refine wF rfl ?_
    have HS4 : Holds w [Row fStr 9 (.slice Az (cnm (upC l i 0)).length cz) (cnm (upC l i 0))] _ := H2.pm (by repeat constructor)
    refine wl_nil (tn ⟨fun _ => HS4, ?_⟩)
    refine wj_off (k := 25) rfl (by kernel_rfl) (fun _ _ _ h => h) rfl rfl rfl HS4 rfl ?_
    refine wjV (k := 26) rfl HS4 (fun W HW => v_pick_t rfl rfl rfl) ?_
    refine wj_done (by kernel_rfl) ?_
    refine wc_cond_t rfl ?_
    refine wcR ?_
    refine wA ?_
    refine wl_nil ?_
    refine wc_ret ?_
    first
      | (have q_ := hjn
         exact ⟨_, res1 rfl rfl, by rw [dataE_ty hOn (fun ht => (ht _ (upC_mem hin hjn) _ (getD_mem hqn)).elim (fun h => g137p h) (fun h => by have h2_ := hm.2 h; omega))], H2.pm (Pm.nil _)⟩)
      | (have q_ := hT
         exact ⟨_, res1 rfl rfl, by rw [dataE_t hOn (hT.fin (by omega))], H2.pm (Pm.nil _)⟩)
      | (have q_ := hnn
         exact ⟨_, res1 rfl rfl, by rw [dataE_tw (fun ho => of_ndec (of_n_t c6) (show NameOk 32 ((cnm (flat l)).getD i s0) by rw [cnm_get hin]; exact (ho.2 i hin).1))], H2.pm (Pm.nil _)⟩)
      | (have q_ := c5p
         exact ⟨_, res1 rfl rfl, by rw [dataE_tw (fun ho => (fnd_take (by omega)).1 (ho.2 i hin).2 j (by omega) (by rw [← cnm_get hin]; exact c5p))], H2.pm (Pm.nil _)⟩)
      | (exact ⟨_, res1 rfl rfl, by (rw [dataE_tw (fun ho => by
           have h_ := ho.1 i hin
           first
             | exact of_ndec (of_n_t g25) h_.1
             | exact h_.2.1 g33p
             | exact h_.2.2 (hm.1 (by omega)))]), H2.pm (Pm.nil _)⟩)
   have g25p := of_n_f g25
   refine wj_vg (k := 8) rfl (by kernel_rfl) (fun _ _ _ h => h) rfl rfl g25 HS3 rfl (fun W HW => v_move rfl) ?_
   refine wj_vg (k := 9) rfl (by kernel_rfl) (fun _ _ _ h => h) rfl rfl g25 HS3 rfl (fun W HW => v_move rfl) ?_
   refine wj_vg (k := 10) rfl (by kernel_rfl) (fun _ _ _ h => h) rfl rfl g25 HS3 rfl (fun W HW => v_idx Try.underlying45 sz83 hr.ad rfl rfl (by omega) (by omega)) ?_
   refine wj_vg (k := 11) rfl (by kernel_rfl) (fun _ _ _ h => h) rfl rfl g25 HS3 rfl (fun W HW => v_fp fa83_0 rfl) ?_
   obtain ⟨R30_, c30_, hc30_, hl30_, hR30_⟩ := hr.atDt (i := i) (by omega)
   refine wj_vg (k := 12) rfl (by kernel_rfl) (fun _ _ _ h => h) rfl rfl g25 HS3 rfl (fun W HW => v_load one9 rfl (HW.cell (hc30_ 0 _ rfl))) ?_
   refine wj_vg (k := 13) rfl (by kernel_rfl) (fun _ _ _ h => h) rfl rfl g25 HS3 rfl (fun W HW => v_eqls rfl rfl) ?_
   refine wjV (k := 14) rfl HS3 (fun W HW => v_pick_f rfl g25 rfl) ?_
   refine wjV (k := 15) rfl HS3 (fun W HW => v_move rfl) ?_
   refine wj_guard (dj := 33) rfl (fun g33 => ?_) (fun g33 => ?_)
   ·have g33p := oT g33
    refine wj_off (k := 16) rfl (by kernel_rfl) (fun _ _ _ h => h) rfl rfl g33 HS3 rfl ?_
    refine wj_off (k := 17) rfl (by kernel_rfl) (fun _ _ _ h => h) rfl rfl g33 HS3 rfl ?_
    refine wj_off (k := 18) rfl (by kernel_rfl) (fun _ _ _ h => h) rfl rfl g33 HS3 rfl ?_
    refine wj_off (k := 19) rfl (by kernel_rfl) (fun _ _ _ h => h) rfl rfl g33 HS3 rfl ?_
    refine wj_off (k := 20) rfl (by kernel_rfl) (fun _ _ _ h => h) rfl rfl g33 HS3 rfl ?_
    refine wj_off (k := 21) rfl (by kernel_rfl) (fun _ _ _ h => h) rfl rfl g33 HS3 rfl ?_
    refine wj_off (k := 22) rfl (by kernel_rfl) (fun _ _ _ h => h) rfl rfl g33 HS3 rfl ?_
    refine wj_off (k := 23) rfl (by kernel_rfl) (fun _ _ _ h => h) rfl rfl g33 HS3 rfl ?_
    refine wj_t (k := 24) rfl (by kernel_rfl) ?_
    refine wF g33 ?_
    have HS5 : Holds w [Row fStr 9 (.slice Az (cnm (upC l i 0)).length cz) (cnm (upC l i 0))] _ := H2.pm (by repeat constructor)
    refine wl_nil (tn ⟨fun _ => HS5, ?_⟩)
    refine wj_off (k := 25) rfl (by kernel_rfl) (fun _ _ _ h => h) rfl rfl g33 HS5 rfl ?_
    refine wjV (k := 26) rfl HS5 (fun W HW => v_pick_t rfl g33 rfl) ?_
    refine wj_done (by kernel_rfl) ?_
    refine wc_cond_t rfl ?_
    refine wcR ?_
    refine wA ?_
    refine wl_nil ?_
    refine wc_ret ?_
    first
      | (have q_ := hjn
         exact ⟨_, res1 rfl rfl, by rw [dataE_ty hOn (fun ht => (ht _ (upC_mem hin hjn) _ (getD_mem hqn)).elim (fun h => g137p h) (fun h => by have h2_ := hm.2 h; omega))], H2.pm (Pm.nil _)⟩)
      | (have q_ := hT
         exact ⟨_, res1 rfl rfl, by rw [dataE_t hOn (hT.fin (by omega))], H2.pm (Pm.nil _)⟩)
      | (have q_ := hnn
         exact ⟨_, res1 rfl rfl, by rw [dataE_tw (fun ho => of_ndec (of_n_t c6) (show NameOk 32 ((cnm (flat l)).getD i s0) by rw [cnm_get hin]; exact (ho.2 i hin).1))], H2.pm (Pm.nil _)⟩)
      | (have q_ := c5p
         exact ⟨_, res1 rfl rfl, by rw [dataE_tw (fun ho => (fnd_take (by omega)).1 (ho.2 i hin).2 j (by omega) (by rw [← cnm_get hin]; exact c5p))], H2.pm (Pm.nil _)⟩)
      | (exact ⟨_, res1 rfl rfl, by (rw [dataE_tw (fun ho => by
           have h_ := ho.1 i hin
           first
             | exact of_ndec (of_n_t g25) h_.1
             | exact h_.2.1 g33p
             | exact h_.2.2 (hm.1 (by omega)))]), H2.pm (Pm.nil _)⟩)
   have g33p := oF g33
   refine wj_vg (k := 16) rfl (by kernel_rfl) (fun _ _ _ h => h) rfl rfl g33 HS3 rfl (fun W HW => v_move rfl) ?_
   refine wj_vg (k := 17) rfl (by kernel_rfl) (fun _ _ _ h => h) rfl rfl g33 HS3 rfl (fun W HW => v_move rfl) ?_
   refine wj_vg (k := 18) rfl (by kernel_rfl) (fun _ _ _ h => h) rfl rfl g33 HS3 rfl (fun W HW => v_cuthi Try.underlying45 sz83 rfl rfl (by omega) (by omega)) ?_
   refine wj_vg (k := 19) rfl (by kernel_rfl) (fun _ _ _ h => h) rfl rfl g33 HS3 rfl (fun W HW => v_move rfl) ?_
   refine wj_vg (k := 20) rfl (by kernel_rfl) (fun _ _ _ h => h) rfl rfl g33 HS3 rfl (fun W HW => v_move rfl) ?_
   refine wj_vg (k := 21) rfl (by kernel_rfl) (fun _ _ _ h => h) rfl rfl g33 HS3 rfl (fun W HW => v_idx Try.underlying45 sz83 hr.ad rfl rfl (by omega) (by omega)) ?_
   refine wj_vg (k := 22) rfl (by kernel_rfl) (fun _ _ _ h => h) rfl rfl g33 HS3 rfl (fun W HW => v_fp fa83_0 rfl) ?_
   obtain ⟨R41_, c41_, hc41_, hl41_, hR41_⟩ := hr.atDt (i := i) (by omega)
   refine wj_vg (k := 23) rfl (by kernel_rfl) (fun _ _ _ h => h) rfl rfl g33 HS3 rfl (fun W HW => v_load one9 rfl (HW.cell (hc41_ 0 _ rfl))) ?_
   refine wj_t (k := 24) rfl (by kernel_rfl) ?_
   refine wO g33 ?_
   refine wl_call en51 rfl rfl ((by have h_ := data_calls (l := l.take i) (cd := cd) (s := (l.getD i dt0).name) (by rw [List.length_take]; omega) ((hr.takes i).below H2.old); rw [List.length_take, Nat.min_eq_left (by omega)] at h_; exact h_)) ?_
   rintro _ w6 ⟨m, rfl, hm, Hc⟩
   have H7 := H2.call0 Hc
   have HS8 : Holds w [Row fStr 9 (.slice Az (cnm (upC l i 0)).length cz) (cnm (upC l i 0))] _ := H7.pm (by repeat constructor)
   refine wl_nil (tn ⟨fun _ => HS8, ?_⟩)
   refine wj_vg (k := 25) rfl (by kernel_rfl) (fun _ _ _ h => h) rfl rfl g33 HS8 rfl (fun W HW => v_geq rfl rfl) ?_
   refine wjV (k := 26) rfl HS8 (fun W HW => v_pick_f rfl g33 rfl) ?_
   refine wj_done (by kernel_rfl) ?_
   refine wc_cond rfl (fun c1 => ?_) (fun c1 => ?_)
   ·have c1p := oT c1
    refine wcR ?_
    refine wA ?_
    refine wl_nil ?_
    refine wc_ret ?_
    first
      | (have q_ := hjn
         exact ⟨_, res1 rfl rfl, by rw [dataE_ty hOn (fun ht => (ht _ (upC_mem hin hjn) _ (getD_mem hqn)).elim (fun h => g137p h) (fun h => by have h2_ := hm.2 h; omega))], H7.pm (Pm.nil _)⟩)
      | (have q_ := hT
         exact ⟨_, res1 rfl rfl, by rw [dataE_t hOn (hT.fin (by omega))], H7.pm (Pm.nil _)⟩)
      | (have q_ := hnn
         exact ⟨_, res1 rfl rfl, by rw [dataE_tw (fun ho => of_ndec (of_n_t c6) (show NameOk 32 ((cnm (flat l)).getD i s0) by rw [cnm_get hin]; exact (ho.2 i hin).1))], H7.pm (Pm.nil _)⟩)
      | (have q_ := c5p
         exact ⟨_, res1 rfl rfl, by rw [dataE_tw (fun ho => (fnd_take (by omega)).1 (ho.2 i hin).2 j (by omega) (by rw [← cnm_get hin]; exact c5p))], H7.pm (Pm.nil _)⟩)
      | (exact ⟨_, res1 rfl rfl, by (rw [dataE_tw (fun ho => by
           have h_ := ho.1 i hin
           first
             | exact of_ndec (of_n_t g25) h_.1
             | exact h_.2.1 g33p
             | exact h_.2.2 (hm.1 (by omega)))]), H7.pm (Pm.nil _)⟩)
   have c1p := oF c1
   have hdt : dtOk l i := ⟨of_dec (of_n_f g25), g33p, fun h_ => by have h2_ := hm.2 h_; omega⟩
   refine wc_skip ?_
   refine wcR ?_
   refine wA ?_
   refine wl_nil ?_
   refine wc_block ?_
   refine wc_loop (σ := Nat × Option Addr × Nat) (fun q => [(0, .slice A l.length cd), (3, .slice q.2.1 (cnm (upC l i q.1)).length q.2.2), (4, .int .i64 i), (5, .int .i64 q.1)]) (fun q W => (q.1 ≤ (l.getD i dt0).ctors.length) ∧ Holds w [Row fStr 9 (.slice q.2.1 (cnm (upC l i q.1)).length q.2.2) (cnm (upC l i q.1))] W) (fun q => (l.getD i dt0).ctors.length - q.1) (0, Az, cz) (sc rfl (sc rfl (sc rfl (sc rfl (sn _))))) ⟨Nat.zero_le _, H7.pm (by repeat constructor)⟩ ?_
   rintro ⟨j, Ay, cy⟩ W1 ⟨hj, H⟩
   dsimp only at hj H ⊢
   refine wc_seq ?_
   refine wcR ?_
   refine wM ?_
   refine wM ?_
   refine wM ?_
   refine wV (v_idx Try.underlying45 sz83 hr.ad rfl rfl (by omega) (by omega)) ?_
   refine wV (v_fp fa83_1 rfl) ?_
   obtain ⟨R50_, c50_, hc50_, hl50_, hR50_⟩ := hr.atDt (i := i) (by omega)
   refine wV (v_load one81 rfl (H.cell (hc50_ 1 _ rfl))) ?_
   refine wV (v_len Try.underlying81 rfl) ?_
   refine wV (v_lss rfl rfl) ?_
   refine wl_nil ?_
   refine wc_cond rfl (fun c2 => ?_) (fun c2 => ?_)
   rotate_left
   ·have c2p := oF c2
    refine wc_exit ?_
    refine wc_region ?_
    refine wM ?_
    refine wV (v_addi rfl rfl (by omega)) ?_
    refine wA ?_
    refine wl_nil ?_
    exact ⟨(i + 1, Ay, cy), (by dsimp only; rw [upC_next (j := j) hin (by omega)]; exact (sc rfl (sc rfl (sc rfl (sn _))))), ⟨⟨by dsimp only; omega, uptoS ha hdt⟩, by dsimp only; rw [upC_next (j := j) hin (by omega)]; exact H⟩, by dsimp only; omega⟩
   have c2p := oT c2
   have hjn : j < (l.getD i dt0).ctors.length := by omega
   have hul := upC_len (l := l) (i := i) (j := j) hin
   refine wc_skip ?_
   refine wc_seq ?_
   refine wc_block ?_
   refine wc_region ?_
   refine wM ?_
   refine wM ?_
   refine wM ?_
   refine wV (v_idx Try.underlying45 sz83 hr.ad rfl rfl (by omega) (by omega)) ?_
   refine wV (v_fp fa83_1 rfl) ?_
   obtain ⟨R60_, c60_, hc60_, hl60_, hR60_⟩ := hr.atDt (i := i) (by omega)
   refine wV (v_load one81 rfl (H.cell (hc60_ 1 _ rfl))) ?_
   refine wM ?_
   refine wV (v_idx Try.underlying81 sz80 hR60_.ad rfl rfl (by omega) (by omega)) ?_
   refine wV (v_fp fa80_0 rfl) ?_
   obtain ⟨R64_, c64_, hc64_, hl64_, hR64_⟩ := hR60_.atCt (i := j) (by omega)
   refine wV (v_load one9 rfl (H.cell (hc64_ 0 _ rfl))) ?_
   refine wl_slit (v := .string ⟨#[]⟩) (z := [.string ⟨#[]⟩]) (cs := [.string ((l.getD i dt0).ctors.getD j ct0).name]) (sz := 1) H rfl Try.underlying40 sz9 zv9 (by decide) (by decide) (by kernel_rfl) rfl (by repeat constructor) ?_
   intro b65 w9 hb65 H9 hs9
   refine wl_app1 (f := fStr) (xs := (cnm (upC l i j))) (y' := ((l.getD i dt0).ctors.getD j ct0).name) H9 (fun v' => (by repeat constructor)) (by repeat constructor) rfl Try.underlying40 info9 rfl (by decide) rfl rfl rfl (by rw [cnm_len]; omega) (by decide) ?_
   intro A66 c66 w10 H10 hs10
   rw [← cnm_succ hjn] at H10 ⊢
   refine wA ?_
   refine wl_nil ?_
   refine wc_region ?_
   refine wM ?_
   refine wV (v_addi rfl rfl (by omega)) ?_
   refine wA ?_
   refine wl_nil ?_
   exact ⟨(j + 1, A66, c66), (sc rfl (sc rfl (sc rfl (sc rfl (sn _))))), ⟨by dsimp only; omega, H10.pm (by repeat constructor)⟩, by dsimp only; omega⟩
  have c0p := oF c0
  obtain rfl : i = l.length := by omega
  rw [upC_zero, List.take_length] at H ⊢
  refine wc_exit ?_
  refine wc_seq ?_
  refine wcR ?_
  refine wA ?_
  refine wl_nil ?_
  refine wc_block ?_
  refine wc_loop (σ := Nat) (fun q => [(0, .slice A l.length cd), (3, .slice Az (cnm (flat l)).length cz), (6, .int .i64 q)]) (fun q W => (q ≤ (flat l).length ∧ ∀ k, k < q → ctOk (flat l) k) ∧ Holds w [Row fStr 9 (.slice Az (cnm (flat l)).length cz) (cnm (flat l))] W) (fun q => (flat l).length - q) 0 (sc rfl (sc rfl (sc rfl (sn _)))) ⟨⟨Nat.zero_le _, upto0⟩, H⟩ ?_
  rintro i W2 ⟨⟨hi, hb⟩, H⟩
  refine wc_seq ?_
  refine wcR ?_
  refine wM ?_
  refine wM ?_
  refine wV (v_len Try.underlying40 rfl) ?_
  refine wV (v_lss rfl rfl) ?_
  refine wl_nil ?_
  refine wc_cond rfl (fun c3 => ?_) (fun c3 => ?_)
  ·have c3p := oT c3
   rw [cnm_len] at c3p
   have hin : i < (flat l).length := by omega
   refine wc_skip ?_
   refine wc_seq ?_
   refine wc_block ?_
   refine wc_seq ?_
   refine wcR ?_
   refine wA ?_
   refine wl_nil ?_
   refine wc_block ?_
   refine wc_loop (σ := Nat) (fun q => [(0, .slice A l.length cd), (3, .slice Az (cnm (flat l)).length cz), (6, .int .i64 i), (7, .int .i64 q)]) (fun q W => (q ≤ i ∧ ∀ k, k < q → (cnm (flat l)).getD k s0 ≠ (cnm (flat l)).getD i s0) ∧ Holds w [Row fStr 9 (.slice Az (cnm (flat l)).length cz) (cnm (flat l))] W) (fun q => i - q) 0 (sc rfl (sc rfl (sc rfl (sc rfl (sn _))))) ⟨⟨Nat.zero_le _, upto0⟩, H⟩ ?_
   rintro j W3 ⟨⟨hj, hd⟩, H⟩
   refine wc_seq ?_
   refine wcR ?_
   refine wM ?_
   refine wM ?_
   refine wV (v_lss rfl rfl) ?_
   refine wl_nil ?_
   refine wc_cond rfl (fun c4 => ?_) (fun c4 => ?_)
   rotate_left
   ·have c4p := oF c4
    have hnn : fnd ((flat l).take i) ((flat l).getD i (s0, ct0)).2.name = none := (fnd_take (by omega)).2 fun k hk => by rw [← cnm_get hin]; exact hd k (by omega)
    have hcnl := cnm_len (flat l)
    refine wc_exit ?_
    refine wcR ?_
    refine wM ?_
    refine wM ?_
    refine wV (v_idx Try.underlying40 sz9 (H.rrd (f := fStr) (e := 9) (A := Az) (xs := (cnm (flat l))) (by repeat constructor)).ad rfl rfl (by omega) (by omega)) ?_
    refine wV (v_load one9 rfl ((H.rrd (f := fStr) (e := 9) (A := Az) (xs := (cnm (flat l))) (by repeat constructor)).at1sN (i := i) (by omega))) ?_
    refine wl_call en74 rfl rfl (rword_calls (show ((cnm (flat l)).getD i s0).size ≤ 1099511627776 by rw [cnm_get hin]; exact (hl.cn _ (getD_mem hin)).1)) ?_
    rintro _ w11 ⟨rfl, Hc⟩
    have H12 := H.call0 Hc
    refine wV (v_not rfl) ?_
    refine wl_nil ?_
    refine wc_cond rfl (fun c6 => ?_) (fun c6 => ?_)
    rotate_left
    ·have c6p := of_n_f c6
     refine wc_skip ?_
     refine wc_region ?_
     refine wM ?_
     refine wV (v_addi rfl rfl (by omega)) ?_
     refine wA ?_
     refine wl_nil ?_
     exact ⟨i + 1, (sc rfl (sc rfl (sc rfl (sn _)))), ⟨⟨by omega, uptoS hb ⟨by rw [← cnm_get hin]; exact of_dec (of_n_f c6), hnn⟩⟩, H12.pm (by repeat constructor)⟩, by omega⟩
    have c6p := of_n_t c6
    refine wcR ?_
    refine wA ?_
    refine wl_nil ?_
    refine wc_ret ?_
    first
      | (have q_ := hjn
         exact ⟨_, res1 rfl rfl, by rw [dataE_ty hOn (fun ht => (ht _ (upC_mem hin hjn) _ (getD_mem hqn)).elim (fun h => g137p h) (fun h => by have h2_ := hm.2 h; omega))], H12.pm (Pm.nil _)⟩)
      | (have q_ := hT
         exact ⟨_, res1 rfl rfl, by rw [dataE_t hOn (hT.fin (by omega))], H12.pm (Pm.nil _)⟩)
      | (have q_ := hnn
         exact ⟨_, res1 rfl rfl, by rw [dataE_tw (fun ho => of_ndec (of_n_t c6) (show NameOk 32 ((cnm (flat l)).getD i s0) by rw [cnm_get hin]; exact (ho.2 i hin).1))], H12.pm (Pm.nil _)⟩)
      | (have q_ := c5p
         exact ⟨_, res1 rfl rfl, by rw [dataE_tw (fun ho => (fnd_take (by omega)).1 (ho.2 i hin).2 j (by omega) (by rw [← cnm_get hin]; exact c5p))], H12.pm (Pm.nil _)⟩)
      | (exact ⟨_, res1 rfl rfl, by (rw [dataE_tw (fun ho => by
           have h_ := ho.1 i hin
           first
             | exact of_ndec (of_n_t g25) h_.1
             | exact h_.2.1 g33p
             | exact h_.2.2 (hm.1 (by omega)))]), H12.pm (Pm.nil _)⟩)
   have c4p := oT c4
   have hjn : j < (flat l).length := by omega
   have hcnl := cnm_len (flat l)
   refine wc_skip ?_
   refine wc_seq ?_
   refine wc_block ?_
   refine wc_seq ?_
   refine wc_tree [0, 1, 2, 3, 4, 5, 6, 7, 8] (fun W => Holds w [Row fStr 9 (.slice Az (cnm (flat l)).length cz) (cnm (flat l))] W) mixed ?_
   have Hd := H.drew
   have HSd : Holds w [Row fStr 9 (.slice Az (cnm (flat l)).length cz) (cnm (flat l))] _ := Hd.pm (by repeat constructor)
   refine wjV (k := 0) rfl HSd (fun W HW => v_move rfl) ?_
   refine wjV (k := 1) rfl HSd (fun W HW => v_move rfl) ?_
   refine wjV (k := 2) rfl HSd (fun W HW => v_idx Try.underlying40 sz9 (HW.rrd (f := fStr) (e := 9) (A := Az) (xs := (cnm (flat l))) (by repeat constructor)).ad rfl rfl (by omega) (by omega)) ?_
   refine wjV (k := 3) rfl HSd (fun W HW => v_load one9 rfl ((HW.rrd (f := fStr) (e := 9) (A := Az) (xs := (cnm (flat l))) (by repeat constructor)).at1sN (i := j) (by omega))) ?_
   refine wjV (k := 4) rfl HSd (fun W HW => v_move rfl) ?_
   refine wjV (k := 5) rfl HSd (fun W HW => v_move rfl) ?_
   refine wjV (k := 6) rfl HSd (fun W HW => v_idx Try.underlying40 sz9 (HW.rrd (f := fStr) (e := 9) (A := Az) (xs := (cnm (flat l))) (by repeat constructor)).ad rfl rfl (by omega) (by omega)) ?_
   refine wjV (k := 7) rfl HSd (fun W HW => v_load one9 rfl ((HW.rrd (f := fStr) (e := 9) (A := Az) (xs := (cnm (flat l))) (by repeat constructor)).at1sN (i := i) (by omega))) ?_
   refine wjV (k := 8) rfl HSd (fun W HW => v_eqls rfl rfl) ?_
   refine wj_done (by kernel_rfl) ?_
   refine wc_cond rfl (fun c5 => ?_) (fun c5 => ?_)
   rotate_left
   ·have c5p := oF c5
    refine wc_skip ?_
    refine wc_region ?_
    refine wM ?_
    refine wV (v_addi rfl rfl (by omega)) ?_
    refine wA ?_
    refine wl_nil ?_
    exact ⟨j + 1, (sc rfl (sc rfl (sc rfl (sc rfl (sn _))))), ⟨⟨by omega, uptoS hd c5p⟩, Hd.pm (by repeat constructor)⟩, by omega⟩
   have c5p := oT c5
   refine wcR ?_
   refine wA ?_
   refine wl_nil ?_
   refine wc_ret ?_
   first
     | (have q_ := hjn
        exact ⟨_, res1 rfl rfl, by rw [dataE_ty hOn (fun ht => (ht _ (upC_mem hin hjn) _ (getD_mem hqn)).elim (fun h => g137p h) (fun h => by have h2_ := hm.2 h; omega))], Hd.pm (Pm.nil _)⟩)
     | (have q_ := hT
        exact ⟨_, res1 rfl rfl, by rw [dataE_t hOn (hT.fin (by omega))], Hd.pm (Pm.nil _)⟩)
     | (have q_ := hnn
        exact ⟨_, res1 rfl rfl, by rw [dataE_tw (fun ho => of_ndec (of_n_t c6) (show NameOk 32 ((cnm (flat l)).getD i s0) by rw [cnm_get hin]; exact (ho.2 i hin).1))], Hd.pm (Pm.nil _)⟩)
     | (have q_ := c5p
        exact ⟨_, res1 rfl rfl, by rw [dataE_tw (fun ho => (fnd_take (by omega)).1 (ho.2 i hin).2 j (by omega) (by rw [← cnm_get hin]; exact c5p))], Hd.pm (Pm.nil _)⟩)
     | (exact ⟨_, res1 rfl rfl, by (rw [dataE_tw (fun ho => by
          have h_ := ho.1 i hin
          first
            | exact of_ndec (of_n_t g25) h_.1
            | exact h_.2.1 g33p
            | exact h_.2.2 (hm.1 (by omega)))]), Hd.pm (Pm.nil _)⟩)
  have c3p := oF c3
  rw [cnm_len] at c3p
  have hOn : Once l := ⟨fun k hk => ha k hk, fun k hk => hb k (by omega)⟩
  refine wc_exit ?_
  refine wc_seq ?_
  refine wcR ?_
  refine wA ?_
  refine wl_nil ?_
  refine wc_block ?_
  refine wc_loop (σ := Nat) (fun q => [(0, .slice A l.length cd), (8, .int .i64 q)]) (fun q W => (q ≤ l.length ∧ TypdTo l q 0 0) ∧ Holds w [] W) (fun q => l.length - q) 0 (sc rfl (sc rfl (sn _))) ⟨⟨Nat.zero_le _, TypdTo.start⟩, H.pm (by repeat (first | exact Pm.nil _ | constructor))⟩ ?_
  rintro i W4 ⟨⟨hi, hT⟩, H⟩
  refine wc_seq ?_
  refine wcR ?_
  refine wM ?_
  refine wM ?_
  refine wV (v_len Try.underlying45 rfl) ?_
  refine wV (v_lss rfl rfl) ?_
  refine wl_nil ?_
  refine wc_cond rfl (fun c7 => ?_) (fun c7 => ?_)
  rotate_left
  ·have c7p := oF c7
   refine wc_exit ?_
   refine wcR ?_
   refine wA ?_
   refine wl_nil ?_
   refine wc_ret ?_
   first
     | (have q_ := hjn
        exact ⟨_, res1 rfl rfl, by rw [dataE_ty hOn (fun ht => (ht _ (upC_mem hin hjn) _ (getD_mem hqn)).elim (fun h => g137p h) (fun h => by have h2_ := hm.2 h; omega))], H.pm (Pm.nil _)⟩)
     | (have q_ := hT
        exact ⟨_, res1 rfl rfl, by rw [dataE_t hOn (hT.fin (by omega))], H.pm (Pm.nil _)⟩)
     | (have q_ := hnn
        exact ⟨_, res1 rfl rfl, by rw [dataE_tw (fun ho => of_ndec (of_n_t c6) (show NameOk 32 ((cnm (flat l)).getD i s0) by rw [cnm_get hin]; exact (ho.2 i hin).1))], H.pm (Pm.nil _)⟩)
     | (have q_ := c5p
        exact ⟨_, res1 rfl rfl, by rw [dataE_tw (fun ho => (fnd_take (by omega)).1 (ho.2 i hin).2 j (by omega) (by rw [← cnm_get hin]; exact c5p))], H.pm (Pm.nil _)⟩)
     | (exact ⟨_, res1 rfl rfl, by (rw [dataE_tw (fun ho => by
          have h_ := ho.1 i hin
          first
            | exact of_ndec (of_n_t g25) h_.1
            | exact h_.2.1 g33p
            | exact h_.2.2 (hm.1 (by omega)))]), H.pm (Pm.nil _)⟩)
  have c7p := oT c7
  have hin : i < l.length := by omega
  have hcl := hl.cl hin
  refine wc_skip ?_
  refine wc_seq ?_
  refine wc_block ?_
  refine wcR ?_
  refine wA ?_
  refine wl_nil ?_
  refine wc_block ?_
  refine wc_loop (σ := Nat) (fun q => [(0, .slice A l.length cd), (8, .int .i64 i), (9, .int .i64 q)]) (fun q W => (q ≤ (l.getD i dt0).ctors.length ∧ TypdTo l i q 0) ∧ Holds w [] W) (fun q => (l.getD i dt0).ctors.length - q) 0 (sc rfl (sc rfl (sc rfl (sn _)))) ⟨⟨Nat.zero_le _, hT⟩, H⟩ ?_
  rintro j W5 ⟨⟨hj, hT⟩, H⟩
  refine wc_seq ?_
  refine wcR ?_
  refine wM ?_
  refine wM ?_
  refine wM ?_
  refine wV (v_idx Try.underlying45 sz83 hr.ad rfl rfl (by omega) (by omega)) ?_
  refine wV (v_fp fa83_1 rfl) ?_
  obtain ⟨R104_, c104_, hc104_, hl104_, hR104_⟩ := hr.atDt (i := i) (by omega)
  refine wV (v_load one81 rfl (H.cell (hc104_ 1 _ rfl))) ?_
  refine wV (v_len Try.underlying81 rfl) ?_
  refine wV (v_lss rfl rfl) ?_
  refine wl_nil ?_
  refine wc_cond rfl (fun c8 => ?_) (fun c8 => ?_)
  rotate_left
  ·have c8p := oF c8
   refine wc_exit ?_
   refine wc_region ?_
   refine wM ?_
   refine wV (v_addi rfl rfl (by omega)) ?_
   refine wA ?_
   refine wl_nil ?_
   exact ⟨i + 1, (sc rfl (sc rfl (sn _))), ⟨⟨by omega, hT.row hin (by omega)⟩, H⟩, by omega⟩
  have c8p := oT c8
  have hjn : j < (l.getD i dt0).ctors.length := by omega
  have hfl := (hl.up hin hjn).2.1
  refine wc_skip ?_
  refine wc_seq ?_
  refine wc_block ?_
  refine wcR ?_
  refine wA ?_
  refine wl_nil ?_
  refine wc_block ?_
  refine wc_loop (σ := Nat) (fun q => [(0, .slice A l.length cd), (8, .int .i64 i), (9, .int .i64 j), (10, .int .i64 q)]) (fun q W => (q ≤ ((l.getD i dt0).ctors.getD j ct0).fields.length ∧ TypdTo l i j q) ∧ Holds w [] W) (fun q => ((l.getD i dt0).ctors.getD j ct0).fields.length - q) 0 (sc rfl (sc rfl (sc rfl (sc rfl (sn _))))) ⟨⟨Nat.zero_le _, hT⟩, H⟩ ?_
  rintro q W6 ⟨⟨hq, hT⟩, H⟩
  refine wc_seq ?_
  refine wcR ?_
  refine wM ?_
  refine wM ?_
  refine wM ?_
  refine wV (v_idx Try.underlying45 sz83 hr.ad rfl rfl (by omega) (by omega)) ?_
  refine wV (v_fp fa83_1 rfl) ?_
  obtain ⟨R114_, c114_, hc114_, hl114_, hR114_⟩ := hr.atDt (i := i) (by omega)
  refine wV (v_load one81 rfl (H.cell (hc114_ 1 _ rfl))) ?_
  refine wM ?_
  refine wV (v_idx Try.underlying81 sz80 hR114_.ad rfl rfl (by omega) (by omega)) ?_
  refine wV (v_fp fa80_1 rfl) ?_
  obtain ⟨R118_, c118_, hc118_, hl118_, hR118_⟩ := hR114_.atCt (i := j) (by omega)
  refine wV (v_load one40 rfl (H.cell (hc118_ 1 _ rfl))) ?_
  refine wV (v_len Try.underlying40 rfl) ?_
  refine wV (v_lss rfl rfl) ?_
  refine wl_nil ?_
  refine wc_cond rfl (fun c9 => ?_) (fun c9 => ?_)
  rotate_left
  ·have c9p := oF c9
   refine wc_exit ?_
   refine wc_region ?_
   refine wM ?_
   refine wV (v_addi rfl rfl (by omega)) ?_
   refine wA ?_
   refine wl_nil ?_
   exact ⟨j + 1, (sc rfl (sc rfl (sc rfl (sn _)))), ⟨⟨by omega, hT.ct hjn (by omega)⟩, H⟩, by omega⟩
  have c9p := oT c9
  have hqn : q < ((l.getD i dt0).ctors.getD j ct0).fields.length := by omega
  refine wc_skip ?_
  refine wc_seq ?_
  refine wc_block ?_
  refine wcR ?_
  refine wM ?_
  refine wM ?_
  refine wV (v_idx Try.underlying45 sz83 hr.ad rfl rfl (by omega) (by omega)) ?_
  refine wV (v_fp fa83_1 rfl) ?_
  obtain ⟨R127_, c127_, hc127_, hl127_, hR127_⟩ := hr.atDt (i := i) (by omega)
  refine wV (v_load one81 rfl (H.cell (hc127_ 1 _ rfl))) ?_
  refine wM ?_
  refine wV (v_idx Try.underlying81 sz80 hR127_.ad rfl rfl (by omega) (by omega)) ?_
  refine wV (v_fp fa80_1 rfl) ?_
  obtain ⟨R131_, c131_, hc131_, hl131_, hR131_⟩ := hR127_.atCt (i := j) (by omega)
  refine wV (v_load one40 rfl (H.cell (hc131_ 1 _ rfl))) ?_
  refine wM ?_
  refine wV (v_idx Try.underlying40 sz9 hR131_.ad rfl rfl (by omega) (by omega)) ?_
  refine wV (v_load one9 rfl (H.cell (hR131_.at1sN (i := q) (by omega)))) ?_
  refine wA ?_
  refine wl_nil ?_
  refine wcR ?_
  refine wM ?_
  refine wV (v_neqs rfl rfl) ?_
  refine wM ?_
  refine wl_guard rfl rfl rfl (fun g137 => ?_) (fun g137 => ?_)
  rotate_left
  ·have g137p := of_nd_f g137
   refine wF g137 ?_
   refine wF g137 ?_
   refine wF g137 ?_
   refine wV (v_pick_f rfl g137 rfl) ?_
   refine wl_nil ?_
   refine wc_cond_f rfl ?_
   refine wc_skip ?_
   refine wc_region ?_
   refine wM ?_
   refine wV (v_addi rfl rfl (by omega)) ?_
   refine wA ?_
   refine wl_nil ?_
   first
     | exact ⟨q + 1, (sc rfl (sc rfl (sc rfl (sc rfl (sn _))))), ⟨⟨by omega, hT.next hqn (.inr (hm.1 (by omega)))⟩, H⟩, by omega⟩
     | exact ⟨q + 1, (sc rfl (sc rfl (sc rfl (sc rfl (sn _))))), ⟨⟨by omega, hT.next hqn (.inl g137p)⟩, H⟩, by omega⟩
  have g137p := of_nd_t g137
  refine wM ?_
  refine wO g137 ?_
  refine wM ?_
  refine wO g137 ?_
  refine wl_call en51 rfl rfl (data_calls (l := l) (cd := cd) (s := ((((l.getD i dt0).ctors.getD j ct0).fields).getD q s0)) hll (hr.below H.old)) ?_
  rintro _ w13 ⟨m, rfl, hm, Hc⟩
  have H14 := H.call0 Hc
  refine wO g137 ?_
  refine wV (v_lss rfl rfl) ?_
  refine wV (v_pick_t rfl g137 rfl) ?_
  refine wl_nil ?_
  refine wc_cond rfl (fun c10 => ?_) (fun c10 => ?_)
  rotate_left
  ·have c10p := oF c10
   refine wc_skip ?_
   refine wc_region ?_
   refine wM ?_
   refine wV (v_addi rfl rfl (by omega)) ?_
   refine wA ?_
   refine wl_nil ?_
   first
     | exact ⟨q + 1, (sc rfl (sc rfl (sc rfl (sc rfl (sn _))))), ⟨⟨by omega, hT.next hqn (.inr (hm.1 (by omega)))⟩, H14⟩, by omega⟩
     | exact ⟨q + 1, (sc rfl (sc rfl (sc rfl (sc rfl (sn _))))), ⟨⟨by omega, hT.next hqn (.inl g137p)⟩, H14⟩, by omega⟩
  have c10p := oT c10
  refine wcR ?_
  refine wA ?_
  refine wl_nil ?_
  refine wc_ret ?_
  first
    | (have q_ := hjn
       exact ⟨_, res1 rfl rfl, by rw [dataE_ty hOn (fun ht => (ht _ (upC_mem hin hjn) _ (getD_mem hqn)).elim (fun h => g137p h) (fun h => by have h2_ := hm.2 h; omega))], H14.pm (Pm.nil _)⟩)
    | (have q_ := hT
       exact ⟨_, res1 rfl rfl, by rw [dataE_t hOn (hT.fin (by omega))], H14.pm (Pm.nil _)⟩)
    | (have q_ := hnn
       exact ⟨_, res1 rfl rfl, by rw [dataE_tw (fun ho => of_ndec (of_n_t c6) (show NameOk 32 ((cnm (flat l)).getD i s0) by rw [cnm_get hin]; exact (ho.2 i hin).1))], H14.pm (Pm.nil _)⟩)
    | (have q_ := c5p
       exact ⟨_, res1 rfl rfl, by rw [dataE_tw (fun ho => (fnd_take (by omega)).1 (ho.2 i hin).2 j (by omega) (by rw [← cnm_get hin]; exact c5p))], H14.pm (Pm.nil _)⟩)
    | (exact ⟨_, res1 rfl rfl, by (rw [dataE_tw (fun ho => by
         have h_ := ho.1 i hin
         first
           | exact of_ndec (of_n_t g25) h_.1
           | exact h_.2.1 g33p
           | exact h_.2.2 (hm.1 (by omega)))]), H14.pm (Pm.nil _)⟩)
end Go.Proofs.Ytgdemplcpcacaaa.RDatas

/-! Which trees are derivations: the document's answer. -/
namespace Go.Proofs.Ytgdemplcpcacaaa.RCheck
open Go Go.RowKit Go.Proofs.YtgdemplcpcacaaaFx Go.Proofs.Ytgdemplcpcacaaa.PartsW Go.Proofs.Ytgdemplcpcacaaa.KindsW Go.Proofs.Ytgdemplcpcacaaa.GramW
theorem agg44 : Agg Try.prog 44 5 := agg_of Try.underlying44 (by kernel_rfl)
theorem agg50 : Agg Try.prog 50 3 := agg_of Try.underlying50 (by kernel_rfl)
theorem en42 : Enters Try.prog 42 := enters Try.func42 (by kernel_rfl) rfl
theorem en68 : Enters Try.prog 68 := enters Try.func68 (by kernel_rfl) rfl
theorem en69 : Enters Try.prog 69 := enters Try.func69 (by kernel_rfl) rfl
theorem en70 : Enters Try.prog 70 := enters Try.func70 (by kernel_rfl) rfl
theorem en88 : Enters Try.prog 88 := enters Try.func88 (by kernel_rfl) rfl
theorem en89 : Enters Try.prog 89 := enters Try.func89 (by kernel_rfl) rfl
theorem fa44_0 : FieldAt Try.prog 44 0 0 := field_at (sz := 0) Try.underlying44 rfl (by kernel_rfl) rfl
theorem fa44_3 : FieldAt Try.prog 44 3 3 := field_at (sz := 0) Try.underlying44 rfl (by kernel_rfl) rfl
theorem fa44_4 : FieldAt Try.prog 44 4 4 := field_at (sz := 0) Try.underlying44 rfl (by kernel_rfl) rfl
theorem fa50_0 : FieldAt Try.prog 50 0 0 := field_at (sz := 0) Try.underlying50 rfl (by kernel_rfl) rfl
theorem fa50_1 : FieldAt Try.prog 50 1 1 := field_at (sz := 0) Try.underlying50 rfl (by kernel_rfl) rfl
theorem fa50_2 : FieldAt Try.prog 50 2 2 := field_at (sz := 0) Try.underlying50 rfl (by kernel_rfl) rfl
theorem fa73_0 : FieldAt Try.prog 73 0 0 := field_at (sz := 0) Try.underlying73 rfl (by kernel_rfl) rfl
theorem fa73_1 : FieldAt Try.prog 73 1 1 := field_at (sz := 0) Try.underlying73 rfl (by kernel_rfl) rfl
theorem mixed : Try.prog.follows .mixedOrders = true := by kernel_rfl
theorem one3 : One Try.prog 3 := one_of Try.underlying3 rfl (by kernel_rfl)
theorem one40 : One Try.prog 40 := one_of Try.underlying40 rfl (by kernel_rfl)
theorem one42 : One Try.prog 42 := one_of Try.underlying42 rfl (by kernel_rfl)
theorem one48 : One Try.prog 48 := one_of Try.underlying48 rfl (by kernel_rfl)
theorem one51 : One Try.prog 51 := one_of Try.underlying51 rfl (by kernel_rfl)
theorem sz3 : ∀ W, (sizeOf 3).run Try.prog W = .ok 1 W := size_of (by kernel_rfl)
theorem sz50 : ∀ W, (sizeOf 50).run Try.prog W = .ok 3 W := size_of (by kernel_rfl)
theorem sz73 : ∀ W, (sizeOf 73).run Try.prog W = .ok 7 W := size_of (by kernel_rfl)

set_option maxRecDepth 100000 in
theorem right_calls {g : Pl} {a : PlA} {w : World} (hrg : g.rd w a) (hg : g.ok) : Calls Try.prog 42 #[.agg #[.slice a.k g.kinds.length a.ck, .slice a.p g.precs.length a.cp, .slice a.r g.rules.length a.cr, .slice a.q g.prods.length a.cq, .int .i64 g.start]] w fun e w' => ∃ v, e = .returned v ∧ v = .bool (dec (GOk g)) ∧ Holds w [] w' := by
  refine calls_of Try.func42 rfl Try.ntmps42 rfl ?_
  have H := Holds.start w
  refine wcR ?_
  refine wl_box (cs := [_, _, _, _, _]) H rfl rfl rfl ?_
  intro b1 w1 hb1 H2
  refine wA ?_
  refine wl_nil ?_
  refine wcR ?_
  refine wV (v_loadN agg44 rfl rfl (H2.ats (by repeat constructor))) ?_
  refine wl_call en68 rfl rfl (rgcheck_calls (hrg.below H2.old) hg) ?_
  rintro _ w3 ⟨rfl, Hc⟩
  have H4 := H2.call0 Hc
  refine wV (v_eql rfl rfl) ?_
  refine wA ?_
  refine wl_nil ?_
  refine wc_ret ?_
  exact ⟨_, res1 rfl rfl, congrArg Value.bool (dec_eq ⟨fun hd => Classical.byContradiction fun h_ => (by have e_ := checkG_f h_; have h2_ := oT hd; omega), fun hh => decide_eq_true (checkG_t hh)⟩), H4.pm (Pm.nil _)⟩

set_option maxRecDepth 100000 in
theorem rule_calls {g : Pl} {a : PlA} {w : World} {x : Int} (hg : g.ok) (hx : 1 ≤ x ∧ x ≤ 4398046511104) : Calls Try.prog 88 #[.agg #[.slice a.k g.kinds.length a.ck, .slice a.p g.precs.length a.cp, .slice a.r g.rules.length a.cr, .slice a.q g.prods.length a.cq, .int .i64 g.start], .int .i64 x] w fun e w' => ∃ v, e = .returned v ∧ ∃ ra : Int, v = .int .i64 ra ∧ ((x < g.kinds.length ∧ ra = -1) ∨ (¬ x < g.kinds.length ∧ ra = x - g.kinds.length)) ∧ Holds w [] w' := by
  have hgk := hg.k
  refine calls_of Try.func88 rfl Try.ntmps88 rfl ?_
  have H := Holds.start w
  refine wcR ?_
  refine wl_box (cs := [_, _, _, _, _]) H rfl rfl rfl ?_
  intro b2 w1 hb2 H2
  refine wA ?_
  refine wl_nil ?_
  refine wc_seq ?_
  refine wcR ?_
  refine wM ?_
  refine wV (v_fb (o2 := 0) fa44_0 rfl rfl) ?_
  refine wV (v_load one40 rfl (H2.at (by repeat constructor) rfl)) ?_
  refine wV (v_len Try.underlying40 rfl) ?_
  refine wV (v_lss rfl rfl) ?_
  refine wl_nil ?_
  refine wc_cond rfl (fun c0 => ?_) (fun c0 => ?_)
  ·have c0p := oT c0
   refine wcR ?_
   refine wA ?_
   refine wl_nil ?_
   refine wc_ret ?_
   first
     | exact ⟨_, res1 rfl rfl, _, rfl, .inl ⟨c0p, rfl⟩, H2.pm (Pm.nil _)⟩
     | exact ⟨_, res1 rfl rfl, _, rfl, .inr ⟨c0p, rfl⟩, H2.pm (Pm.nil _)⟩
  have c0p := oF c0
  refine wc_skip ?_
  refine wcR ?_
  refine wM ?_
  refine wV (v_fb (o2 := 0) fa44_0 rfl rfl) ?_
  refine wV (v_load one40 rfl (H2.at (by repeat constructor) rfl)) ?_
  refine wV (v_len Try.underlying40 rfl) ?_
  refine wV (v_subi rfl rfl (by omega)) ?_
  refine wA ?_
  refine wl_nil ?_
  refine wc_ret ?_
  first
    | exact ⟨_, res1 rfl rfl, _, rfl, .inl ⟨c0p, rfl⟩, H2.pm (Pm.nil _)⟩
    | exact ⟨_, res1 rfl rfl, _, rfl, .inr ⟨c0p, rfl⟩, H2.pm (Pm.nil _)⟩

set_option maxRecDepth 100000 in
theorem leaf_calls {d : Dv} {B : Option Addr} {k : Nat} {w : World} : Calls Try.prog 89 #[.agg #[.int .i64 d.x.prod, .int .i64 d.x.tok, .slice B d.kids.length k]] w fun e w' => ∃ v, e = .returned v ∧ v = .bool (dec (d.x.prod = -1 ∧ d.kids.length = 0)) ∧ Holds w [] w' := by
  refine calls_of Try.func89 rfl Try.ntmps89 rfl ?_
  have H := Holds.start w
  refine wcR ?_
  refine wl_box (cs := [_, _, _]) H rfl rfl rfl ?_
  intro b1 w1 hb1 H2
  refine wA ?_
  refine wl_nil ?_
  refine wcR ?_
  refine wV (v_fb (o2 := 0) fa50_0 rfl rfl) ?_
  refine wV (v_load one3 rfl (H2.at (by repeat constructor) rfl)) ?_
  refine wV (v_eql rfl rfl) ?_
  refine wM ?_
  refine wl_guard rfl rfl rfl (fun g6 => ?_) (fun g6 => ?_)
  rotate_left
  ·have g6p := oF g6
   refine wF g6 ?_
   refine wF g6 ?_
   refine wF g6 ?_
   refine wV (v_pick_f rfl g6 rfl) ?_
   refine wA ?_
   refine wl_nil ?_
   refine wc_ret ?_
   first
     | exact ⟨_, res1 rfl rfl, congrArg Value.bool (dec_eq ⟨fun hd => by (have h_ := oT hd; omega), fun hh => decide_eq_true (by omega)⟩), H2.pm (Pm.nil _)⟩
     | exact ⟨_, res1 rfl rfl, congrArg Value.bool (dec_f (by omega)).symm, H2.pm (Pm.nil _)⟩
  have g6p := oT g6
  refine wV (v_fb (o2 := 2) fa50_2 rfl rfl) ?_
  refine wO g6 ?_
  refine wV (v_load one48 rfl (H2.at (by repeat constructor) rfl)) ?_
  refine wO g6 ?_
  refine wV (v_len Try.underlying48 rfl) ?_
  refine wO g6 ?_
  refine wV (v_eql rfl rfl) ?_
  refine wV (v_pick_t rfl g6 rfl) ?_
  refine wA ?_
  refine wl_nil ?_
  refine wc_ret ?_
  first
    | exact ⟨_, res1 rfl rfl, congrArg Value.bool (dec_eq ⟨fun hd => by (have h_ := oT hd; omega), fun hh => decide_eq_true (by omega)⟩), H2.pm (Pm.nil _)⟩
    | exact ⟨_, res1 rfl rfl, congrArg Value.bool (dec_f (by omega)).symm, H2.pm (Pm.nil _)⟩

set_option maxHeartbeats 1600000 in
set_option maxRecDepth 100000 in
theorem refuse_calls {g : Pl} {a : PlA} {row : List Int} {A : Option Addr} {cr : Nat} {w : World} (hrg : g.rd w a) (hg : g.ok) (hR : Rd (kInt .i64) w A row) (hl : row.length ≤ 1099511627776) : Calls Try.prog 69 #[.agg #[.slice a.k g.kinds.length a.ck, .slice a.p g.precs.length a.cp, .slice a.r g.rules.length a.cr, .slice a.q g.prods.length a.cq, .int .i64 g.start], .slice A row.length cr] w fun e w' => ∃ v, e = .returned v ∧ ∃ q : Int, v = .int .i64 q ∧ (q = 0 ↔ GOk g ∧ RowsOk g row ∧ row.length ≤ 65536) ∧ Holds w [] w' := by
  have hgk := hg.k
  refine calls_of Try.func69 rfl Try.ntmps69 rfl ?_
  have H := Holds.start w
  refine wcR ?_
  refine wl_box (cs := [_, _, _, _, _]) H rfl rfl rfl ?_
  intro b2 w1 hb2 H2
  refine wA ?_
  refine wl_nil ?_
  refine wc_seq ?_
  refine wcR ?_
  refine wV (v_loadN agg44 rfl rfl (H2.ats (by repeat constructor))) ?_
  refine wl_call en42 rfl rfl (right_calls (hrg.below H2.old) hg) ?_
  rintro _ w3 ⟨rfl, Hc⟩
  have H4 := H2.call0 Hc
  refine wV (v_not rfl) ?_
  refine wl_nil ?_
  refine wc_cond rfl (fun c0 => ?_) (fun c0 => ?_)
  ·have c0p := of_n_t c0
   refine wcR ?_
   refine wA ?_
   refine wl_nil ?_
   refine wc_ret ?_
   first
     | (have q_ := c1p
        exact ⟨_, res1 rfl rfl, _, rfl, ⟨fun _ => ⟨hG, fun j hj => ha j (by omega), by omega⟩, fun _ => rfl⟩, H4.pm (Pm.nil _)⟩)
     | (have q_ := c1p
        exact ⟨_, res1 rfl rfl, _, rfl, ⟨fun h => by omega, fun hh => by have h_ := hh.2.1 i (by omega); omega⟩, H4.pm (Pm.nil _)⟩)
     | exact ⟨_, res1 rfl rfl, _, rfl, ⟨fun h => by omega, fun hh => by have h_ := hh.2.2; omega⟩, H4.pm (Pm.nil _)⟩
     | exact ⟨_, res1 rfl rfl, _, rfl, ⟨fun h => by omega, fun hh => absurd hh.1 (of_ndec (of_n_t c0))⟩, H4.pm (Pm.nil _)⟩
  have c0p := of_n_f c0
  have hG := of_dec (of_n_f c0)
  refine wc_skip ?_
  refine wc_seq ?_
  refine wcR ?_
  refine wA ?_
  refine wl_nil ?_
  refine wc_block ?_
  refine wc_loop (σ := Nat) (fun s => [(1, .slice A row.length cr), (2, .pointer (some ⟨b2, 0, none⟩)), (5, .int .i64 s)]) (fun s W => (s ≤ row.length ∧ ∀ j, j < s → 1 ≤ row.getD j 0 ∧ row.getD j 0 < g.kinds.length) ∧ Holds w [Blk b2 44 [.slice a.k g.kinds.length a.ck, .slice a.p g.precs.length a.cp, .slice a.r g.rules.length a.cr, .slice a.q g.prods.length a.cq, .int .i64 g.start]] W) (fun s => row.length - s) 0 (sc rfl (sc rfl (sc rfl (sn _)))) ⟨⟨Nat.zero_le _, upto_zero⟩, H4⟩ ?_
  rintro i W0 ⟨⟨hi, ha⟩, H⟩
  refine wc_seq ?_
  refine wcR ?_
  refine wM ?_
  refine wM ?_
  refine wV (v_len Try.underlying51 rfl) ?_
  refine wV (v_lss rfl rfl) ?_
  refine wl_nil ?_
  refine wc_cond rfl (fun c1 => ?_) (fun c1 => ?_)
  rotate_left
  ·have c1p := oF c1
   refine wc_exit ?_
   refine wc_seq ?_
   refine wcR ?_
   refine wM ?_
   refine wV (v_len Try.underlying51 rfl) ?_
   refine wV (v_gtr rfl rfl) ?_
   refine wl_nil ?_
   refine wc_cond rfl (fun c3 => ?_) (fun c3 => ?_)
   ·have c3p := oT c3
    refine wcR ?_
    refine wA ?_
    refine wl_nil ?_
    refine wc_ret ?_
    first
      | (have q_ := c1p
         exact ⟨_, res1 rfl rfl, _, rfl, ⟨fun _ => ⟨hG, fun j hj => ha j (by omega), by omega⟩, fun _ => rfl⟩, H.pm (Pm.nil _)⟩)
      | (have q_ := c1p
         exact ⟨_, res1 rfl rfl, _, rfl, ⟨fun h => by omega, fun hh => by have h_ := hh.2.1 i (by omega); omega⟩, H.pm (Pm.nil _)⟩)
      | exact ⟨_, res1 rfl rfl, _, rfl, ⟨fun h => by omega, fun hh => by have h_ := hh.2.2; omega⟩, H.pm (Pm.nil _)⟩
      | exact ⟨_, res1 rfl rfl, _, rfl, ⟨fun h => by omega, fun hh => absurd hh.1 (of_ndec (of_n_t c0))⟩, H.pm (Pm.nil _)⟩
   have c3p := oF c3
   refine wc_skip ?_
   refine wcR ?_
   refine wA ?_
   refine wl_nil ?_
   refine wc_ret ?_
   first
     | (have q_ := c1p
        exact ⟨_, res1 rfl rfl, _, rfl, ⟨fun _ => ⟨hG, fun j hj => ha j (by omega), by omega⟩, fun _ => rfl⟩, H.pm (Pm.nil _)⟩)
     | (have q_ := c1p
        exact ⟨_, res1 rfl rfl, _, rfl, ⟨fun h => by omega, fun hh => by have h_ := hh.2.1 i (by omega); omega⟩, H.pm (Pm.nil _)⟩)
     | exact ⟨_, res1 rfl rfl, _, rfl, ⟨fun h => by omega, fun hh => by have h_ := hh.2.2; omega⟩, H.pm (Pm.nil _)⟩
     | exact ⟨_, res1 rfl rfl, _, rfl, ⟨fun h => by omega, fun hh => absurd hh.1 (of_ndec (of_n_t c0))⟩, H.pm (Pm.nil _)⟩
  have c1p := oT c1
  refine wc_skip ?_
  refine wc_seq ?_
  refine wc_block ?_
  refine wc_seq ?_
  refine wc_still mixed (by kernel_rfl) ?_
  have Hd := H.drew
  refine ws_v rfl rfl rfl (v_move rfl) ?_
  refine ws_v rfl rfl rfl (v_move rfl) ?_
  refine ws_v rfl rfl rfl (v_idx Try.underlying51 sz3 hR.ad rfl rfl (by omega) (by omega)) ?_
  refine ws_v rfl rfl rfl (v_load one3 rfl (Hd.cell (hR.at1N (i := i) (by omega)))) ?_
  refine ws_v rfl rfl rfl (v_lss rfl rfl) ?_
  refine ws_v rfl rfl rfl (v_move rfl) ?_
  refine ws_guard rfl rfl rfl (fun g20 => ?_) (fun g20 => ?_)
  rotate_left
  ·have g20p := oT g20
   refine ws_off rfl rfl g20 rfl ?_
   refine ws_off rfl rfl g20 rfl ?_
   refine ws_off rfl rfl g20 rfl ?_
   refine ws_off rfl rfl g20 rfl ?_
   refine ws_off rfl rfl g20 rfl ?_
   refine ws_off rfl rfl g20 rfl ?_
   refine ws_off rfl rfl g20 rfl ?_
   refine ws_v rfl rfl rfl (v_pick_t rfl g20 rfl) ?_
   refine ws_nil ?_
   refine wc_cond_t rfl ?_
   refine wcR ?_
   refine wA ?_
   refine wl_nil ?_
   refine wc_ret ?_
   first
     | (have q_ := c1p
        exact ⟨_, res1 rfl rfl, _, rfl, ⟨fun _ => ⟨hG, fun j hj => ha j (by omega), by omega⟩, fun _ => rfl⟩, Hd.pm (Pm.nil _)⟩)
     | (have q_ := c1p
        exact ⟨_, res1 rfl rfl, _, rfl, ⟨fun h => by omega, fun hh => by have h_ := hh.2.1 i (by omega); omega⟩, Hd.pm (Pm.nil _)⟩)
     | exact ⟨_, res1 rfl rfl, _, rfl, ⟨fun h => by omega, fun hh => by have h_ := hh.2.2; omega⟩, Hd.pm (Pm.nil _)⟩
     | exact ⟨_, res1 rfl rfl, _, rfl, ⟨fun h => by omega, fun hh => absurd hh.1 (of_ndec (of_n_t c0))⟩, Hd.pm (Pm.nil _)⟩
  have g20p := oF g20
  refine ws_v rfl rfl rfl (v_move rfl) ?_
  refine ws_on' rfl rfl g20 ?_
  refine ws_v rfl rfl rfl (v_move rfl) ?_
  refine ws_on' rfl rfl g20 ?_
  refine ws_v rfl rfl rfl (v_idx Try.underlying51 sz3 hR.ad rfl rfl (by omega) (by omega)) ?_
  refine ws_on' rfl rfl g20 ?_
  refine ws_v rfl rfl rfl (v_load one3 rfl (Hd.cell (hR.at1N (i := i) (by omega)))) ?_
  refine ws_on' rfl rfl g20 ?_
  refine ws_v rfl rfl rfl (v_fb (o2 := 0) fa44_0 rfl rfl) ?_
  refine ws_on' rfl rfl g20 ?_
  refine ws_v rfl rfl rfl (v_load one40 rfl (Hd.at (by repeat constructor) rfl)) ?_
  refine ws_on' rfl rfl g20 ?_
  refine ws_v rfl rfl rfl (v_len Try.underlying40 rfl) ?_
  refine ws_on' rfl rfl g20 ?_
  refine ws_v rfl rfl rfl (v_geq rfl rfl) ?_
  refine ws_v rfl rfl rfl (v_pick_f rfl g20 rfl) ?_
  refine ws_nil ?_
  refine wc_cond rfl (fun c2 => ?_) (fun c2 => ?_)
  rotate_left
  ·have c2p := oF c2
   refine wc_skip ?_
   refine wc_region ?_
   refine wM ?_
   refine wV (v_addi rfl rfl (by omega)) ?_
   refine wA ?_
   refine wl_nil ?_
   exact ⟨i + 1, (sc rfl (sc rfl (sc rfl (sn _)))), ⟨⟨by omega, upto_succ ha (by omega)⟩, Hd.pm (by repeat constructor)⟩, by omega⟩
  have c2p := oT c2
  refine wcR ?_
  refine wA ?_
  refine wl_nil ?_
  refine wc_ret ?_
  first
    | (have q_ := c1p
       exact ⟨_, res1 rfl rfl, _, rfl, ⟨fun _ => ⟨hG, fun j hj => ha j (by omega), by omega⟩, fun _ => rfl⟩, Hd.pm (Pm.nil _)⟩)
    | (have q_ := c1p
       exact ⟨_, res1 rfl rfl, _, rfl, ⟨fun h => by omega, fun hh => by have h_ := hh.2.1 i (by omega); omega⟩, Hd.pm (Pm.nil _)⟩)
    | exact ⟨_, res1 rfl rfl, _, rfl, ⟨fun h => by omega, fun hh => by have h_ := hh.2.2; omega⟩, Hd.pm (Pm.nil _)⟩
    | exact ⟨_, res1 rfl rfl, _, rfl, ⟨fun h => by omega, fun hh => absurd hh.1 (of_ndec (of_n_t c0))⟩, Hd.pm (Pm.nil _)⟩

/-- An answer as a number: -1: none. -/
def ansI : Option Nat → Int
  | some a => a
  | none => -1
theorem ansI_some {o : Option Nat} (h : ¬ ansI o < 0) : ∃ a, o = some a := by
  cases o with
  | none => exact absurd (show ansI none < 0 by decide) h
  | some a => exact ⟨a, rfl⟩
theorem ansI_none {o : Option Nat} (h : ansI o < 0) : o = none := by
  cases o with
  | none => rfl
  | some a => have : ansI (some a) = (a : Int) := rfl; omega
theorem ansI_is {o : Option Nat} {n : Nat} (h : ansI o = (n : Int)) : o = some n := by
  cases o with
  | none => have : ansI none = -1 := rfl; omega
  | some a => have : ansI (some a) = (a : Int) := rfl; exact congrArg some (by omega)
def ShapeOk (g : Pl) (row : List Int) (d : Dv) : Prop := ∀ (a : PlA) (w : World) (A B : Option Addr) (k cr : Nat) (x : Int) (at_ : Nat) (hrg : g.rd w a) (hr : Rd (kTr fDv) w B d.kids) (hR : Rd (kInt .i64) w A row) (hl : row.length ≤ 65536) (hat : at_ ≤ row.length) (hx : 1 ≤ x ∧ x ≤ 4398046511104) (hcn : d.cnt ≤ 1099511627776), Calls Try.prog 70 #[.agg #[.slice a.k g.kinds.length a.ck, .slice a.p g.precs.length a.cp, .slice a.r g.rules.length a.cr, .slice a.q g.prods.length a.cq, .int .i64 g.start], .agg #[.int .i64 d.x.prod, .int .i64 d.x.tok, .slice B d.kids.length k], .int .i64 x, .int .i64 (at_ : Nat), .slice A row.length cr, .bool true] w fun e w' => ∃ v, e = .returned v ∧ v = .int .i64 (ansI (shp g row d x at_)) ∧ Holds w [] w'

set_option maxHeartbeats 6400000 in
set_option maxRecDepth 100000 in
theorem shape_step {g : Pl} {a : PlA} {row : List Int} {w : World} {A B : Option Addr} {k cr : Nat} {x : Int} {at_ : Nat} {d : Dv} (hG : GOk g) (hg : g.ok) (hrg : g.rd w a) (hr : Rd (kTr fDv) w B d.kids) (hR : Rd (kInt .i64) w A row) (hl : row.length ≤ 65536) (hat : at_ ≤ row.length) (hx : 1 ≤ x ∧ x ≤ 4398046511104) (hcn : d.cnt ≤ 1099511627776) (ih : ∀ t' ∈ d.kids, ShapeOk g row t') : Calls Try.prog 70 #[.agg #[.slice a.k g.kinds.length a.ck, .slice a.p g.precs.length a.cp, .slice a.r g.rules.length a.cr, .slice a.q g.prods.length a.cq, .int .i64 g.start], .agg #[.int .i64 d.x.prod, .int .i64 d.x.tok, .slice B d.kids.length k], .int .i64 x, .int .i64 (at_ : Nat), .slice A row.length cr, .bool true] w fun e w' => ∃ v, e = .returned v ∧ v = .int .i64 (ansI (shp g row d x at_)) ∧ Holds w [] w' := by
  have hcnt := Tr.cnt_eq d
  have hkl := Tr.cnts_len d.kids
  have hgk := hg.k
  have hgq := hg.q
  have hgr := hg.r
  refine calls_of Try.func70 rfl Try.ntmps70 rfl ?_
  have H := Holds.start w
  refine wcR ?_
  refine wl_box (cs := [_, _, _, _, _]) H rfl rfl rfl ?_
  intro b6 w1 hb6 H2
  refine wl_box (cs := [_, _, _]) H2 rfl rfl rfl ?_
  intro b7 w3 hb7 H4
  refine wA ?_
  refine wl_nil ?_
  refine wcR ?_
  refine wV (v_loadN agg44 rfl rfl (H4.ats (by repeat constructor))) ?_
  refine wM ?_
  refine wl_call en88 rfl rfl (rule_calls hg hx) ?_
  rintro _ w5 ⟨ra, rfl, hra, Hc⟩
  have H6 := H4.call0 Hc
  refine wA ?_
  refine wl_nil ?_
  refine wc_seq ?_
  refine wcR ?_
  refine wM ?_
  refine wV (v_lss rfl rfl) ?_
  refine wl_nil ?_
  refine wc_cond rfl (fun c0 => ?_) (fun c0 => ?_)
  ·have c0p := oT c0
   refine wc_seq ?_
   refine wcR ?_
   refine wV (v_loadN agg50 rfl rfl (H6.ats (by repeat constructor))) ?_
   refine wl_call en89 rfl rfl (leaf_calls) ?_
   rintro _ w7 ⟨rfl, Hc⟩
   have H8 := H6.call0 Hc
   refine wV (v_not rfl) ?_
   refine wM ?_
   refine wl_guard rfl rfl rfl (fun g23 => ?_) (fun g23 => ?_)
   rotate_left
   ·have g23p := of_n_t g23
    refine wF g23 ?_
    refine wl_offu rfl rfl rfl ?_
    refine wl_offu rfl rfl rfl ?_
    refine wl_offu rfl rfl rfl ?_
    refine wl_offu rfl rfl rfl ?_
    refine wl_offu rfl rfl rfl ?_
    refine wl_offu rfl rfl rfl ?_
    refine wl_offu rfl rfl rfl ?_
    refine wl_offu rfl rfl rfl ?_
    refine wl_offu rfl rfl rfl ?_
    refine wl_offu rfl rfl rfl ?_
    refine wl_offu rfl rfl rfl ?_
    refine wl_offu rfl rfl rfl ?_
    refine wl_offu rfl rfl rfl ?_
    refine wl_offu rfl rfl rfl ?_
    refine wl_offu rfl rfl rfl ?_
    refine wl_offu rfl rfl rfl ?_
    refine wl_offu rfl rfl rfl ?_
    refine wl_offu rfl rfl rfl ?_
    refine wF g23 ?_
    refine wV (v_pick_t rfl g23 rfl) ?_
    refine wl_nil ?_
    refine wc_cond_t rfl ?_
    refine wcR ?_
    refine wA ?_
    refine wl_nil ?_
    refine wc_ret ?_
    first
      | (have q_ := c4p
         rw [shp_node (by omega) hfit, shps_none _ _ _ (i + 1) (hss.trans (ansI_none c4p))]
         exact ⟨_, res1 rfl rfl, rfl, H8.pm (Pm.nil _)⟩)
      | (have q_ := c3p
         rw [List.take_of_length_le (by omega)] at hq
         rw [shp_node (by omega) hfit, hq]
         exact ⟨_, res1 rfl rfl, rfl, H8.pm (Pm.nil _)⟩)
      | (rw [shp_node_no (by omega) (fun hh => by unfold nodeFit at hh; omega)]
         exact ⟨_, res1 rfl rfl, rfl, H8.pm (Pm.nil _)⟩)
      | (rw [shp_leaf (by omega) (show leafOk row d.x d.kids.length x at_ from ⟨⟨of_dec g23p, by omega⟩, by omega, by have h_ := c1p; simpa using h_⟩)]
         exact ⟨_, res1 rfl rfl, rfl, H8.pm (Pm.nil _)⟩)
      | (rw [shp_leaf_no (by omega) (fun hh => by first | exact of_ndec g23p hh.1.1 | (have h1_ := hh.1.2; have h2_ := hh.2.1; first | omega | exact c1p (by simpa using hh.2.2)))]
         exact ⟨_, res1 rfl rfl, rfl, H8.pm (Pm.nil _)⟩)
   have g23p := of_n_f g23
   refine wM ?_
   refine wO g23 ?_
   refine wM ?_
   refine wO rfl ?_
   refine wV (v_fb (o2 := 1) fa50_1 rfl rfl) ?_
   refine wO rfl ?_
   refine wV (v_load one3 rfl (H8.at (by repeat constructor) rfl)) ?_
   refine wO rfl ?_
   refine wM ?_
   refine wO rfl ?_
   refine wV (v_neq rfl rfl) ?_
   refine wO rfl ?_
   refine wM ?_
   refine wl_guard rfl rfl rfl (fun g30 => ?_) (fun g30 => ?_)
   rotate_left
   ·have g30p := of_nd_t g30
    refine wF g30 ?_
    refine wF g30 ?_
    refine wF g30 ?_
    refine wO rfl ?_
    refine wV (v_pick_t rfl g30 rfl) ?_
    refine wO rfl ?_
    refine wM ?_
    refine wF rfl ?_
    refine wF rfl ?_
    refine wF rfl ?_
    refine wF rfl ?_
    refine wF rfl ?_
    refine wF rfl ?_
    refine wO rfl ?_
    refine wV (v_pick_t rfl rfl rfl) ?_
    refine wO g23 ?_
    refine wV (v_pick_t rfl rfl rfl) ?_
    refine wV (v_pick_f rfl g23 rfl) ?_
    refine wl_nil ?_
    refine wc_cond_t rfl ?_
    refine wcR ?_
    refine wA ?_
    refine wl_nil ?_
    refine wc_ret ?_
    first
      | (have q_ := c4p
         rw [shp_node (by omega) hfit, shps_none _ _ _ (i + 1) (hss.trans (ansI_none c4p))]
         exact ⟨_, res1 rfl rfl, rfl, H8.pm (Pm.nil _)⟩)
      | (have q_ := c3p
         rw [List.take_of_length_le (by omega)] at hq
         rw [shp_node (by omega) hfit, hq]
         exact ⟨_, res1 rfl rfl, rfl, H8.pm (Pm.nil _)⟩)
      | (rw [shp_node_no (by omega) (fun hh => by unfold nodeFit at hh; omega)]
         exact ⟨_, res1 rfl rfl, rfl, H8.pm (Pm.nil _)⟩)
      | (rw [shp_leaf (by omega) (show leafOk row d.x d.kids.length x at_ from ⟨⟨of_dec g23p, by omega⟩, by omega, by have h_ := c1p; simpa using h_⟩)]
         exact ⟨_, res1 rfl rfl, rfl, H8.pm (Pm.nil _)⟩)
      | (rw [shp_leaf_no (by omega) (fun hh => by first | exact of_ndec g23p hh.1.1 | (have h1_ := hh.1.2; have h2_ := hh.2.1; first | omega | exact c1p (by simpa using hh.2.2)))]
         exact ⟨_, res1 rfl rfl, rfl, H8.pm (Pm.nil _)⟩)
   have g30p := of_nd_f g30
   refine wM ?_
   refine wO g30 ?_
   refine wM ?_
   refine wO g30 ?_
   refine wV (v_len Try.underlying51 rfl) ?_
   refine wO g30 ?_
   refine wV (v_geq rfl rfl) ?_
   refine wO rfl ?_
   refine wV (v_pick_f rfl g30 rfl) ?_
   refine wO rfl ?_
   refine wM ?_
   refine wl_guard rfl rfl rfl (fun g36 => ?_) (fun g36 => ?_)
   rotate_left
   ·have g36p := oT g36
    refine wF g36 ?_
    refine wF g36 ?_
    refine wF g36 ?_
    refine wF g36 ?_
    refine wF g36 ?_
    refine wO rfl ?_
    refine wV (v_pick_t rfl g36 rfl) ?_
    refine wO g23 ?_
    refine wV (v_pick_t rfl rfl rfl) ?_
    refine wV (v_pick_f rfl g23 rfl) ?_
    refine wl_nil ?_
    refine wc_cond_t rfl ?_
    refine wcR ?_
    refine wA ?_
    refine wl_nil ?_
    refine wc_ret ?_
    first
      | (have q_ := c4p
         rw [shp_node (by omega) hfit, shps_none _ _ _ (i + 1) (hss.trans (ansI_none c4p))]
         exact ⟨_, res1 rfl rfl, rfl, H8.pm (Pm.nil _)⟩)
      | (have q_ := c3p
         rw [List.take_of_length_le (by omega)] at hq
         rw [shp_node (by omega) hfit, hq]
         exact ⟨_, res1 rfl rfl, rfl, H8.pm (Pm.nil _)⟩)
      | (rw [shp_node_no (by omega) (fun hh => by unfold nodeFit at hh; omega)]
         exact ⟨_, res1 rfl rfl, rfl, H8.pm (Pm.nil _)⟩)
      | (rw [shp_leaf (by omega) (show leafOk row d.x d.kids.length x at_ from ⟨⟨of_dec g23p, by omega⟩, by omega, by have h_ := c1p; simpa using h_⟩)]
         exact ⟨_, res1 rfl rfl, rfl, H8.pm (Pm.nil _)⟩)
      | (rw [shp_leaf_no (by omega) (fun hh => by first | exact of_ndec g23p hh.1.1 | (have h1_ := hh.1.2; have h2_ := hh.2.1; first | omega | exact c1p (by simpa using hh.2.2)))]
         exact ⟨_, res1 rfl rfl, rfl, H8.pm (Pm.nil _)⟩)
   have g36p := oF g36
   refine wM ?_
   refine wO g36 ?_
   refine wM ?_
   refine wO g36 ?_
   refine wV (v_idx Try.underlying51 sz3 hR.ad rfl rfl (by omega) (by omega)) ?_
   refine wO g36 ?_
   refine wV (v_load one3 rfl (H8.cell (hR.at1 (by omega) (by omega)))) ?_
   refine wO g36 ?_
   refine wM ?_
   refine wO g36 ?_
   refine wV (v_neq rfl rfl) ?_
   refine wO rfl ?_
   refine wV (v_pick_f rfl g36 rfl) ?_
   refine wO g23 ?_
   refine wV (v_pick_t rfl rfl rfl) ?_
   refine wV (v_pick_f rfl g23 rfl) ?_
   refine wl_nil ?_
   refine wc_cond rfl (fun c1 => ?_) (fun c1 => ?_)
   ·have c1p := of_nd_t c1
    refine wcR ?_
    refine wA ?_
    refine wl_nil ?_
    refine wc_ret ?_
    first
      | (have q_ := c4p
         rw [shp_node (by omega) hfit, shps_none _ _ _ (i + 1) (hss.trans (ansI_none c4p))]
         exact ⟨_, res1 rfl rfl, rfl, H8.pm (Pm.nil _)⟩)
      | (have q_ := c3p
         rw [List.take_of_length_le (by omega)] at hq
         rw [shp_node (by omega) hfit, hq]
         exact ⟨_, res1 rfl rfl, rfl, H8.pm (Pm.nil _)⟩)
      | (rw [shp_node_no (by omega) (fun hh => by unfold nodeFit at hh; omega)]
         exact ⟨_, res1 rfl rfl, rfl, H8.pm (Pm.nil _)⟩)
      | (rw [shp_leaf (by omega) (show leafOk row d.x d.kids.length x at_ from ⟨⟨of_dec g23p, by omega⟩, by omega, by have h_ := c1p; simpa using h_⟩)]
         exact ⟨_, res1 rfl rfl, rfl, H8.pm (Pm.nil _)⟩)
      | (rw [shp_leaf_no (by omega) (fun hh => by first | exact of_ndec g23p hh.1.1 | (have h1_ := hh.1.2; have h2_ := hh.2.1; first | omega | exact c1p (by simpa using hh.2.2)))]
         exact ⟨_, res1 rfl rfl, rfl, H8.pm (Pm.nil _)⟩)
   have c1p := of_nd_f c1
   refine wc_skip ?_
   refine wcR ?_
   refine wM ?_
   refine wV (v_addi rfl rfl (by omega)) ?_
   refine wA ?_
   refine wl_nil ?_
   refine wc_ret ?_
   first
     | (have q_ := c4p
        rw [shp_node (by omega) hfit, shps_none _ _ _ (i + 1) (hss.trans (ansI_none c4p))]
        exact ⟨_, res1 rfl rfl, rfl, H8.pm (Pm.nil _)⟩)
     | (have q_ := c3p
        rw [List.take_of_length_le (by omega)] at hq
        rw [shp_node (by omega) hfit, hq]
        exact ⟨_, res1 rfl rfl, rfl, H8.pm (Pm.nil _)⟩)
     | (rw [shp_node_no (by omega) (fun hh => by unfold nodeFit at hh; omega)]
        exact ⟨_, res1 rfl rfl, rfl, H8.pm (Pm.nil _)⟩)
     | (rw [shp_leaf (by omega) (show leafOk row d.x d.kids.length x at_ from ⟨⟨of_dec g23p, by omega⟩, by omega, by have h_ := c1p; simpa using h_⟩)]
        exact ⟨_, res1 rfl rfl, rfl, H8.pm (Pm.nil _)⟩)
     | (rw [shp_leaf_no (by omega) (fun hh => by first | exact of_ndec g23p hh.1.1 | (have h1_ := hh.1.2; have h2_ := hh.2.1; first | omega | exact c1p (by simpa using hh.2.2)))]
        exact ⟨_, res1 rfl rfl, rfl, H8.pm (Pm.nil _)⟩)
  have c0p := oF c0
  refine wc_skip ?_
  refine wc_seq ?_
  refine wc_seq ?_
  refine wc_still mixed (by kernel_rfl) ?_
  have Hd := H6.drew
  refine ws_v rfl rfl rfl (v_fb (o2 := 0) fa50_0 rfl rfl) ?_
  refine ws_v rfl rfl rfl (v_load one3 rfl (Hd.at (by repeat constructor) rfl)) ?_
  refine ws_v rfl rfl rfl (v_lss rfl rfl) ?_
  refine ws_v rfl rfl rfl (v_move rfl) ?_
  refine ws_guard rfl rfl rfl (fun g51 => ?_) (fun g51 => ?_)
  rotate_left
  ·have g51p := oT g51
   refine ws_off rfl rfl g51 rfl ?_
   refine ws_off rfl rfl g51 rfl ?_
   refine ws_off rfl rfl g51 rfl ?_
   refine ws_off rfl rfl g51 rfl ?_
   refine ws_off rfl rfl g51 rfl ?_
   refine ws_v rfl rfl rfl (v_pick_t rfl g51 rfl) ?_
   refine ws_v rfl rfl rfl (v_move rfl) ?_
   refine ws_off rfl rfl rfl rfl ?_
   refine ws_off rfl rfl rfl rfl ?_
   refine ws_off rfl rfl rfl rfl ?_
   refine ws_off rfl rfl rfl rfl ?_
   refine ws_off rfl rfl rfl rfl ?_
   refine ws_off rfl rfl rfl rfl ?_
   refine ws_off rfl rfl rfl rfl ?_
   refine ws_off rfl rfl rfl rfl ?_
   refine ws_off rfl rfl rfl rfl ?_
   refine ws_v rfl rfl rfl (v_pick_t rfl rfl rfl) ?_
   refine ws_v rfl rfl rfl (v_move rfl) ?_
   refine ws_off rfl rfl rfl rfl ?_
   refine ws_off rfl rfl rfl rfl ?_
   refine ws_off rfl rfl rfl rfl ?_
   refine ws_off rfl rfl rfl rfl ?_
   refine ws_off rfl rfl rfl rfl ?_
   refine ws_off rfl rfl rfl rfl ?_
   refine ws_off rfl rfl rfl rfl ?_
   refine ws_off rfl rfl rfl rfl ?_
   refine ws_off rfl rfl rfl rfl ?_
   refine ws_off rfl rfl rfl rfl ?_
   refine ws_off rfl rfl rfl rfl ?_
   refine ws_off rfl rfl rfl rfl ?_
   refine ws_v rfl rfl rfl (v_pick_t rfl rfl rfl) ?_
   refine ws_v rfl rfl rfl (v_move rfl) ?_
   refine ws_off rfl rfl rfl rfl ?_
   refine ws_off rfl rfl rfl rfl ?_
   refine ws_offu rfl rfl rfl ?_
   refine ws_offu rfl rfl rfl ?_
   refine ws_offu rfl rfl rfl ?_
   refine ws_off rfl rfl rfl rfl ?_
   refine ws_v rfl rfl rfl (v_pick_t rfl rfl rfl) ?_
   refine ws_nil ?_
   refine wc_cond_t rfl ?_
   refine wcR ?_
   refine wA ?_
   refine wl_nil ?_
   refine wc_ret ?_
   first
     | (have q_ := c4p
        rw [shp_node (by omega) hfit, shps_none _ _ _ (i + 1) (hss.trans (ansI_none c4p))]
        exact ⟨_, res1 rfl rfl, rfl, Hd.pm (Pm.nil _)⟩)
     | (have q_ := c3p
        rw [List.take_of_length_le (by omega)] at hq
        rw [shp_node (by omega) hfit, hq]
        exact ⟨_, res1 rfl rfl, rfl, Hd.pm (Pm.nil _)⟩)
     | (rw [shp_node_no (by omega) (fun hh => by unfold nodeFit at hh; omega)]
        exact ⟨_, res1 rfl rfl, rfl, Hd.pm (Pm.nil _)⟩)
     | (rw [shp_leaf (by omega) (show leafOk row d.x d.kids.length x at_ from ⟨⟨of_dec g23p, by omega⟩, by omega, by have h_ := c1p; simpa using h_⟩)]
        exact ⟨_, res1 rfl rfl, rfl, Hd.pm (Pm.nil _)⟩)
     | (rw [shp_leaf_no (by omega) (fun hh => by first | exact of_ndec g23p hh.1.1 | (have h1_ := hh.1.2; have h2_ := hh.2.1; first | omega | exact c1p (by simpa using hh.2.2)))]
        exact ⟨_, res1 rfl rfl, rfl, Hd.pm (Pm.nil _)⟩)
  have g51p := oF g51
  refine ws_v rfl rfl rfl (v_fb (o2 := 0) fa50_0 rfl rfl) ?_
  refine ws_on' rfl rfl g51 ?_
  refine ws_v rfl rfl rfl (v_load one3 rfl (Hd.at (by repeat constructor) rfl)) ?_
  refine ws_on' rfl rfl g51 ?_
  refine ws_v rfl rfl rfl (v_fb (o2 := 3) fa44_3 rfl rfl) ?_
  refine ws_on' rfl rfl g51 ?_
  refine ws_v rfl rfl rfl (v_load one42 rfl (Hd.at (by repeat constructor) rfl)) ?_
  refine ws_on' rfl rfl g51 ?_
  refine ws_v rfl rfl rfl (v_len Try.underlying42 rfl) ?_
  refine ws_on' rfl rfl g51 ?_
  refine ws_v rfl rfl rfl (v_geq rfl rfl) ?_
  refine ws_v rfl rfl rfl (v_pick_f rfl g51 rfl) ?_
  refine ws_v rfl rfl rfl (v_move rfl) ?_
  refine ws_guard rfl rfl rfl (fun g59 => ?_) (fun g59 => ?_)
  rotate_left
  ·have g59p := oT g59
   refine ws_off rfl rfl g59 rfl ?_
   refine ws_off rfl rfl g59 rfl ?_
   refine ws_off rfl rfl g59 rfl ?_
   refine ws_off rfl rfl g59 rfl ?_
   refine ws_off rfl rfl g59 rfl ?_
   refine ws_off rfl rfl g59 rfl ?_
   refine ws_off rfl rfl g59 rfl ?_
   refine ws_off rfl rfl g59 rfl ?_
   refine ws_v rfl rfl rfl (v_pick_t rfl g59 rfl) ?_
   refine ws_v rfl rfl rfl (v_move rfl) ?_
   refine ws_off rfl rfl rfl rfl ?_
   refine ws_off rfl rfl rfl rfl ?_
   refine ws_off rfl rfl rfl rfl ?_
   refine ws_off rfl rfl rfl rfl ?_
   refine ws_off rfl rfl rfl rfl ?_
   refine ws_off rfl rfl rfl rfl ?_
   refine ws_off rfl rfl rfl rfl ?_
   refine ws_off rfl rfl rfl rfl ?_
   refine ws_off rfl rfl rfl rfl ?_
   refine ws_off rfl rfl rfl rfl ?_
   refine ws_off rfl rfl rfl rfl ?_
   refine ws_off rfl rfl rfl rfl ?_
   refine ws_v rfl rfl rfl (v_pick_t rfl rfl rfl) ?_
   refine ws_v rfl rfl rfl (v_move rfl) ?_
   refine ws_off rfl rfl rfl rfl ?_
   refine ws_off rfl rfl rfl rfl ?_
   refine ws_offu rfl rfl rfl ?_
   refine ws_offu rfl rfl rfl ?_
   refine ws_offu rfl rfl rfl ?_
   refine ws_off rfl rfl rfl rfl ?_
   refine ws_v rfl rfl rfl (v_pick_t rfl rfl rfl) ?_
   refine ws_nil ?_
   refine wc_cond_t rfl ?_
   refine wcR ?_
   refine wA ?_
   refine wl_nil ?_
   refine wc_ret ?_
   first
     | (have q_ := c4p
        rw [shp_node (by omega) hfit, shps_none _ _ _ (i + 1) (hss.trans (ansI_none c4p))]
        exact ⟨_, res1 rfl rfl, rfl, Hd.pm (Pm.nil _)⟩)
     | (have q_ := c3p
        rw [List.take_of_length_le (by omega)] at hq
        rw [shp_node (by omega) hfit, hq]
        exact ⟨_, res1 rfl rfl, rfl, Hd.pm (Pm.nil _)⟩)
     | (rw [shp_node_no (by omega) (fun hh => by unfold nodeFit at hh; omega)]
        exact ⟨_, res1 rfl rfl, rfl, Hd.pm (Pm.nil _)⟩)
     | (rw [shp_leaf (by omega) (show leafOk row d.x d.kids.length x at_ from ⟨⟨of_dec g23p, by omega⟩, by omega, by have h_ := c1p; simpa using h_⟩)]
        exact ⟨_, res1 rfl rfl, rfl, Hd.pm (Pm.nil _)⟩)
     | (rw [shp_leaf_no (by omega) (fun hh => by first | exact of_ndec g23p hh.1.1 | (have h1_ := hh.1.2; have h2_ := hh.2.1; first | omega | exact c1p (by simpa using hh.2.2)))]
        exact ⟨_, res1 rfl rfl, rfl, Hd.pm (Pm.nil _)⟩)
  have g59p := oF g59
  refine ws_v rfl rfl rfl (v_fb (o2 := 3) fa44_3 rfl rfl) ?_
  refine ws_on' rfl rfl g59 ?_
  refine ws_v rfl rfl rfl (v_load one42 rfl (Hd.at (by repeat constructor) rfl)) ?_
  refine ws_on' rfl rfl g59 ?_
  refine ws_v rfl rfl rfl (v_fb (o2 := 0) fa50_0 rfl rfl) ?_
  refine ws_on' rfl rfl g59 ?_
  refine ws_v rfl rfl rfl (v_load one3 rfl (Hd.at (by repeat constructor) rfl)) ?_
  refine ws_on' rfl rfl g59 ?_
  refine ws_v rfl rfl rfl (v_idx Try.underlying42 sz73 hrg.q.ad rfl rfl (by omega) (by omega)) ?_
  refine ws_on' rfl rfl g59 ?_
  refine ws_v rfl rfl rfl (v_fp fa73_0 rfl) ?_
  refine ws_on' rfl rfl g59 ?_
  obtain ⟨R66_, c66_, B66_, k66_, hc66_, hl66_, hR66_, hB66_⟩ := hrg.q.atPrI (i := d.x.prod) (by omega) (by omega)
  refine ws_v rfl rfl rfl (v_load one3 rfl (Hd.cell (hc66_ 0 _ rfl))) ?_
  refine ws_on' rfl rfl g59 ?_
  refine ws_v rfl rfl rfl (v_move rfl) ?_
  refine ws_on' rfl rfl g59 ?_
  refine ws_v rfl rfl rfl (v_neq rfl rfl) ?_
  refine ws_v rfl rfl rfl (v_pick_f rfl g59 rfl) ?_
  refine ws_v rfl rfl rfl (v_move rfl) ?_
  refine ws_guard rfl rfl rfl (fun g70 => ?_) (fun g70 => ?_)
  rotate_left
  ·have g70p := of_nd_t g70
   refine ws_off rfl rfl g70 rfl ?_
   refine ws_off rfl rfl g70 rfl ?_
   refine ws_off rfl rfl g70 rfl ?_
   refine ws_off rfl rfl g70 rfl ?_
   refine ws_off rfl rfl g70 rfl ?_
   refine ws_off rfl rfl g70 rfl ?_
   refine ws_off rfl rfl g70 rfl ?_
   refine ws_off rfl rfl g70 rfl ?_
   refine ws_off rfl rfl g70 rfl ?_
   refine ws_off rfl rfl g70 rfl ?_
   refine ws_off rfl rfl g70 rfl ?_
   refine ws_v rfl rfl rfl (v_pick_t rfl g70 rfl) ?_
   refine ws_v rfl rfl rfl (v_move rfl) ?_
   refine ws_off rfl rfl rfl rfl ?_
   refine ws_off rfl rfl rfl rfl ?_
   refine ws_offu rfl rfl rfl ?_
   refine ws_offu rfl rfl rfl ?_
   refine ws_offu rfl rfl rfl ?_
   refine ws_off rfl rfl rfl rfl ?_
   refine ws_v rfl rfl rfl (v_pick_t rfl rfl rfl) ?_
   refine ws_nil ?_
   refine wc_cond_t rfl ?_
   refine wcR ?_
   refine wA ?_
   refine wl_nil ?_
   refine wc_ret ?_
   first
     | (have q_ := c4p
        rw [shp_node (by omega) hfit, shps_none _ _ _ (i + 1) (hss.trans (ansI_none c4p))]
        exact ⟨_, res1 rfl rfl, rfl, Hd.pm (Pm.nil _)⟩)
     | (have q_ := c3p
        rw [List.take_of_length_le (by omega)] at hq
        rw [shp_node (by omega) hfit, hq]
        exact ⟨_, res1 rfl rfl, rfl, Hd.pm (Pm.nil _)⟩)
     | (rw [shp_node_no (by omega) (fun hh => by unfold nodeFit at hh; omega)]
        exact ⟨_, res1 rfl rfl, rfl, Hd.pm (Pm.nil _)⟩)
     | (rw [shp_leaf (by omega) (show leafOk row d.x d.kids.length x at_ from ⟨⟨of_dec g23p, by omega⟩, by omega, by have h_ := c1p; simpa using h_⟩)]
        exact ⟨_, res1 rfl rfl, rfl, Hd.pm (Pm.nil _)⟩)
     | (rw [shp_leaf_no (by omega) (fun hh => by first | exact of_ndec g23p hh.1.1 | (have h1_ := hh.1.2; have h2_ := hh.2.1; first | omega | exact c1p (by simpa using hh.2.2)))]
        exact ⟨_, res1 rfl rfl, rfl, Hd.pm (Pm.nil _)⟩)
  have g70p := of_nd_f g70
  refine ws_v rfl rfl rfl (v_fb (o2 := 2) fa50_2 rfl rfl) ?_
  refine ws_on' rfl rfl g70 ?_
  refine ws_v rfl rfl rfl (v_load one48 rfl (Hd.at (by repeat constructor) rfl)) ?_
  refine ws_on' rfl rfl g70 ?_
  refine ws_v rfl rfl rfl (v_len Try.underlying48 rfl) ?_
  refine ws_on' rfl rfl g70 ?_
  refine ws_v rfl rfl rfl (v_fb (o2 := 3) fa44_3 rfl rfl) ?_
  refine ws_on' rfl rfl g70 ?_
  refine ws_v rfl rfl rfl (v_load one42 rfl (Hd.at (by repeat constructor) rfl)) ?_
  refine ws_on' rfl rfl g70 ?_
  refine ws_v rfl rfl rfl (v_fb (o2 := 0) fa50_0 rfl rfl) ?_
  refine ws_on' rfl rfl g70 ?_
  refine ws_v rfl rfl rfl (v_load one3 rfl (Hd.at (by repeat constructor) rfl)) ?_
  refine ws_on' rfl rfl g70 ?_
  refine ws_v rfl rfl rfl (v_idx Try.underlying42 sz73 hrg.q.ad rfl rfl (by omega) (by omega)) ?_
  refine ws_on' rfl rfl g70 ?_
  refine ws_v rfl rfl rfl (v_fp fa73_1 rfl) ?_
  refine ws_on' rfl rfl g70 ?_
  obtain ⟨R80_, c80_, B80_, k80_, hc80_, hl80_, hR80_, hB80_⟩ := hrg.q.atPrI (i := d.x.prod) (by omega) (by omega)
  refine ws_v rfl rfl rfl (v_load one51 rfl (Hd.cell (hc80_ 1 _ rfl))) ?_
  refine ws_on' rfl rfl g70 ?_
  refine ws_v rfl rfl rfl (v_len Try.underlying51 rfl) ?_
  refine ws_on' rfl rfl g70 ?_
  refine ws_v rfl rfl rfl (v_neq rfl rfl) ?_
  refine ws_v rfl rfl rfl (v_pick_f rfl g70 rfl) ?_
  refine ws_v rfl rfl rfl (v_move rfl) ?_
  refine ws_guard rfl rfl rfl (fun g84 => ?_) (fun g84 => ?_)
  rotate_left
  ·have g84p := of_nd_t g84
   refine ws_off rfl rfl g84 rfl ?_
   refine ws_offu rfl rfl rfl ?_
   refine ws_offu rfl rfl rfl ?_
   refine ws_offu rfl rfl rfl ?_
   refine ws_off rfl rfl g84 rfl ?_
   refine ws_v rfl rfl rfl (v_pick_t rfl g84 rfl) ?_
   refine ws_nil ?_
   refine wc_cond_t rfl ?_
   refine wcR ?_
   refine wA ?_
   refine wl_nil ?_
   refine wc_ret ?_
   first
     | (have q_ := c4p
        rw [shp_node (by omega) hfit, shps_none _ _ _ (i + 1) (hss.trans (ansI_none c4p))]
        exact ⟨_, res1 rfl rfl, rfl, Hd.pm (Pm.nil _)⟩)
     | (have q_ := c3p
        rw [List.take_of_length_le (by omega)] at hq
        rw [shp_node (by omega) hfit, hq]
        exact ⟨_, res1 rfl rfl, rfl, Hd.pm (Pm.nil _)⟩)
     | (rw [shp_node_no (by omega) (fun hh => by unfold nodeFit at hh; omega)]
        exact ⟨_, res1 rfl rfl, rfl, Hd.pm (Pm.nil _)⟩)
     | (rw [shp_leaf (by omega) (show leafOk row d.x d.kids.length x at_ from ⟨⟨of_dec g23p, by omega⟩, by omega, by have h_ := c1p; simpa using h_⟩)]
        exact ⟨_, res1 rfl rfl, rfl, Hd.pm (Pm.nil _)⟩)
     | (rw [shp_leaf_no (by omega) (fun hh => by first | exact of_ndec g23p hh.1.1 | (have h1_ := hh.1.2; have h2_ := hh.2.1; first | omega | exact c1p (by simpa using hh.2.2)))]
        exact ⟨_, res1 rfl rfl, rfl, Hd.pm (Pm.nil _)⟩)
  have g84p := of_nd_f g84
  refine ws_v rfl rfl rfl (v_move rfl) ?_
  refine ws_on' rfl rfl g84 ?_
  refine ws_v rfl rfl rfl (v_move rfl) ?_
  refine ws_on' rfl rfl rfl ?_
  refine ws_v rfl rfl rfl (v_fb (o2 := 1) fa50_1 rfl rfl) ?_
  refine ws_on' rfl rfl rfl ?_
  refine ws_v rfl rfl rfl (v_load one3 rfl (Hd.at (by repeat constructor) rfl)) ?_
  refine ws_on' rfl rfl rfl ?_
  refine ws_v rfl rfl rfl (v_neq rfl rfl) ?_
  refine ws_on' rfl rfl g84 ?_
  refine ws_v rfl rfl rfl (v_pick_t rfl rfl rfl) ?_
  refine ws_v rfl rfl rfl (v_pick_f rfl g84 rfl) ?_
  refine ws_nil ?_
  refine wc_cond rfl (fun c2 => ?_) (fun c2 => ?_)
  ·have c2p := of_nd_t c2
   refine wcR ?_
   refine wA ?_
   refine wl_nil ?_
   refine wc_ret ?_
   first
     | (have q_ := c4p
        rw [shp_node (by omega) hfit, shps_none _ _ _ (i + 1) (hss.trans (ansI_none c4p))]
        exact ⟨_, res1 rfl rfl, rfl, Hd.pm (Pm.nil _)⟩)
     | (have q_ := c3p
        rw [List.take_of_length_le (by omega)] at hq
        rw [shp_node (by omega) hfit, hq]
        exact ⟨_, res1 rfl rfl, rfl, Hd.pm (Pm.nil _)⟩)
     | (rw [shp_node_no (by omega) (fun hh => by unfold nodeFit at hh; omega)]
        exact ⟨_, res1 rfl rfl, rfl, Hd.pm (Pm.nil _)⟩)
     | (rw [shp_leaf (by omega) (show leafOk row d.x d.kids.length x at_ from ⟨⟨of_dec g23p, by omega⟩, by omega, by have h_ := c1p; simpa using h_⟩)]
        exact ⟨_, res1 rfl rfl, rfl, Hd.pm (Pm.nil _)⟩)
     | (rw [shp_leaf_no (by omega) (fun hh => by first | exact of_ndec g23p hh.1.1 | (have h1_ := hh.1.2; have h2_ := hh.2.1; first | omega | exact c1p (by simpa using hh.2.2)))]
        exact ⟨_, res1 rfl rfl, rfl, Hd.pm (Pm.nil _)⟩)
  have c2p := of_nd_f c2
  have hfit : nodeFit g d.x d.kids.length x := ⟨⟨⟨by omega, by omega⟩, by omega⟩, by omega, by omega⟩
  have hpok := hG.2.2 d.x.prod.toNat (by omega)
  have hpl := hpok.1
  refine wc_skip ?_
  refine wc_seq ?_
  refine wcR ?_
  refine wA ?_
  refine wl_nil ?_
  refine wc_block ?_
  refine wc_loop (σ := Nat × Nat) (fun s => [(3, .int .i64 ((s.2 : Nat) : Int)), (4, .slice A row.length cr), (5, .bool true), (6, .pointer (some ⟨b6, 0, none⟩)), (7, .pointer (some ⟨b7, 0, none⟩)), (14, .int .i64 s.1)]) (fun s W => (s.1 ≤ d.kids.length ∧ shps g row (d.kids.take s.1) (g.prods.getD d.x.prod.toNat pr0).right at_ = some s.2) ∧ Holds w [Blk b7 50 [.int .i64 d.x.prod, .int .i64 d.x.tok, .slice B d.kids.length k], Blk b6 44 [.slice a.k g.kinds.length a.ck, .slice a.p g.precs.length a.cp, .slice a.r g.rules.length a.cr, .slice a.q g.prods.length a.cq, .int .i64 g.start]] W) (fun s => d.kids.length - s.1) (0, at_) (sc rfl (sc rfl (sc rfl (sc rfl (sc rfl (sc rfl (sn _))))))) ⟨⟨Nat.zero_le _, by rw [List.take_zero]; exact shps_nil _ _⟩, Hd⟩ ?_
  rintro ⟨i, q⟩ W0 ⟨⟨hi, hq⟩, H⟩
  dsimp only at hi hq H ⊢
  have hqle := (shps_le _ _ _ _ hq).2 hat
  refine wc_seq ?_
  refine wcR ?_
  refine wM ?_
  refine wV (v_fb (o2 := 2) fa50_2 rfl rfl) ?_
  refine wV (v_load one48 rfl (H.at (by repeat constructor) rfl)) ?_
  refine wV (v_len Try.underlying48 rfl) ?_
  refine wV (v_lss rfl rfl) ?_
  refine wl_nil ?_
  refine wc_cond rfl (fun c3 => ?_) (fun c3 => ?_)
  rotate_left
  ·have c3p := oF c3
   refine wc_exit ?_
   refine wcR ?_
   refine wM ?_
   refine wA ?_
   refine wl_nil ?_
   refine wc_ret ?_
   first
     | (have q_ := c4p
        rw [shp_node (by omega) hfit, shps_none _ _ _ (i + 1) (hss.trans (ansI_none c4p))]
        exact ⟨_, res1 rfl rfl, rfl, H.pm (Pm.nil _)⟩)
     | (have q_ := c3p
        rw [List.take_of_length_le (by omega)] at hq
        rw [shp_node (by omega) hfit, hq]
        exact ⟨_, res1 rfl rfl, rfl, H.pm (Pm.nil _)⟩)
     | (rw [shp_node_no (by omega) (fun hh => by unfold nodeFit at hh; omega)]
        exact ⟨_, res1 rfl rfl, rfl, H.pm (Pm.nil _)⟩)
     | (rw [shp_leaf (by omega) (show leafOk row d.x d.kids.length x at_ from ⟨⟨of_dec g23p, by omega⟩, by omega, by have h_ := c1p; simpa using h_⟩)]
        exact ⟨_, res1 rfl rfl, rfl, H.pm (Pm.nil _)⟩)
     | (rw [shp_leaf_no (by omega) (fun hh => by first | exact of_ndec g23p hh.1.1 | (have h1_ := hh.1.2; have h2_ := hh.2.1; first | omega | exact c1p (by simpa using hh.2.2)))]
        exact ⟨_, res1 rfl rfl, rfl, H.pm (Pm.nil _)⟩)
  have c3p := oT c3
  refine wc_skip ?_
  refine wc_seq ?_
  refine wc_block ?_
  refine wc_seq ?_
  refine wc_tree [0, 1, 2, 3, 4, 5, 6, 7, 8, 9, 10, 11, 12, 13, 14, 15, 16, 17, 18, 20] (fun W => Holds w [Blk b7 50 [.int .i64 d.x.prod, .int .i64 d.x.tok, .slice B d.kids.length k], Blk b6 44 [.slice a.k g.kinds.length a.ck, .slice a.p g.precs.length a.cp, .slice a.r g.rules.length a.cr, .slice a.q g.prods.length a.cq, .int .i64 g.start]] W) mixed ?_
  have Hd := H.drew
  have HSd : Holds w [Blk b7 50 [.int .i64 d.x.prod, .int .i64 d.x.tok, .slice B d.kids.length k], Blk b6 44 [.slice a.k g.kinds.length a.ck, .slice a.p g.precs.length a.cp, .slice a.r g.rules.length a.cr, .slice a.q g.prods.length a.cq, .int .i64 g.start]] _ := Hd.pm (by repeat constructor)
  refine wjV (k := 0) rfl HSd (fun W HW => v_loadN agg44 rfl rfl (HW.ats (by repeat constructor))) ?_
  refine wjV (k := 1) rfl HSd (fun W HW => v_fb (o2 := 2) fa50_2 rfl rfl) ?_
  refine wjV (k := 2) rfl HSd (fun W HW => v_load one48 rfl (HW.at (by repeat constructor) rfl)) ?_
  refine wjV (k := 3) rfl HSd (fun W HW => v_move rfl) ?_
  refine wjV (k := 4) rfl HSd (fun W HW => v_idx Try.underlying48 sz50 hr.ad rfl rfl (by omega) (by omega)) ?_
  obtain ⟨B104_, k104_, hc104_, hl104_, hr104_⟩ := hr.atTr dv0 (i := i) (by omega)
  refine wjV (k := 5) rfl HSd (fun W HW => v_loadN (cs := [.int .i64 (d.kids.getD i dv0).x.prod, .int .i64 (d.kids.getD i dv0).x.tok, .slice B104_ (d.kids.getD i dv0).kids.length k104_]) agg50 rfl rfl (fun q_ u_ hu_ => HW.cell (hc104_ q_ u_ hu_))) ?_
  refine wjV (k := 6) rfl HSd (fun W HW => v_fb (o2 := 3) fa44_3 rfl rfl) ?_
  refine wjV (k := 7) rfl HSd (fun W HW => v_load one42 rfl (HW.at (by repeat constructor) rfl)) ?_
  refine wjV (k := 8) rfl HSd (fun W HW => v_fb (o2 := 0) fa50_0 rfl rfl) ?_
  refine wjV (k := 9) rfl HSd (fun W HW => v_load one3 rfl (HW.at (by repeat constructor) rfl)) ?_
  refine wjV (k := 10) rfl HSd (fun W HW => v_idx Try.underlying42 sz73 hrg.q.ad rfl rfl (by omega) (by omega)) ?_
  refine wjV (k := 11) rfl HSd (fun W HW => v_fp fa73_1 rfl) ?_
  obtain ⟨R111_, c111_, B111_, k111_, hc111_, hl111_, hR111_, hB111_⟩ := hrg.q.atPrI (i := d.x.prod) (by omega) (by omega)
  refine wjV (k := 12) rfl HSd (fun W HW => v_load one51 rfl (HW.cell (hc111_ 1 _ rfl))) ?_
  refine wjV (k := 13) rfl HSd (fun W HW => v_move rfl) ?_
  refine wjV (k := 14) rfl HSd (fun W HW => v_idx Try.underlying51 sz3 hR111_.ad rfl rfl (by omega) (by omega)) ?_
  refine wjV (k := 15) rfl HSd (fun W HW => v_load one3 rfl (HW.cell (hR111_.at1N (i := i) (by omega)))) ?_
  refine wjV (k := 16) rfl HSd (fun W HW => v_move rfl) ?_
  refine wjV (k := 17) rfl HSd (fun W HW => v_move rfl) ?_
  refine wjV (k := 18) rfl HSd (fun W HW => v_move rfl) ?_
  refine wj_t (k := 19) rfl (by kernel_rfl) ?_
  refine wl_call en70 rfl rfl (ih _ (getD_mem (z := dv0) (show i < d.kids.length by omega)) a _ A _ _ cr _ q (hrg.below Hd.old) (hr104_.below Hd.old) (hR.below Hd.old) hl hqle (by have h_ := hpok.2.1 i (by omega); omega) (by have h_ := Tr.cnts_succ dv0 d.kids i (by omega); have h2_ := Tr.cnts_take d.kids (i + 1); omega)) ?_
  rintro _ w9 ⟨rfl, Hc⟩
  have H10 := Hd.call0 Hc
  have hss := shps_succ (g := g) (row := row) d.kids (g.prods.getD d.x.prod.toNat pr0).right at_ i (by omega)
  rw [hq] at hss
  rw [show (some q).bind (shp g row (d.kids.getD i dv0) ((g.prods.getD d.x.prod.toNat pr0).right.getD i 0)) = shp g row (d.kids.getD i dv0) ((g.prods.getD d.x.prod.toNat pr0).right.getD i 0) q from rfl] at hss
  have HS11 : Holds w [Blk b7 50 [.int .i64 d.x.prod, .int .i64 d.x.tok, .slice B d.kids.length k], Blk b6 44 [.slice a.k g.kinds.length a.ck, .slice a.p g.precs.length a.cp, .slice a.r g.rules.length a.cr, .slice a.q g.prods.length a.cq, .int .i64 g.start]] _ := H10.pm (by repeat constructor)
  refine wl_nil (tn ⟨fun _ => HS11, ?_⟩)
  refine wjV (k := 20) rfl HS11 (fun W HW => v_assign rfl) ?_
  refine wj_done (by kernel_rfl) ?_
  refine wcR ?_
  refine wM ?_
  refine wV (v_lss rfl rfl) ?_
  refine wl_nil ?_
  refine wc_cond rfl (fun c4 => ?_) (fun c4 => ?_)
  rotate_left
  ·have c4p := oF c4
   refine wc_skip ?_
   refine wc_region ?_
   refine wM ?_
   refine wV (v_addi rfl rfl (by omega)) ?_
   refine wA ?_
   refine wl_nil ?_
   obtain ⟨q2, hq2⟩ := ansI_some c4p
   rw [hq2]
   exact ⟨(i + 1, q2), (sc rfl (sc rfl (sc rfl (sc rfl (sc rfl (sc rfl (sn _))))))), ⟨⟨by dsimp only; omega, hss.trans hq2⟩, H10⟩, by dsimp only; omega⟩
  have c4p := oT c4
  refine wcR ?_
  refine wA ?_
  refine wl_nil ?_
  refine wc_ret ?_
  first
    | (have q_ := c4p
       rw [shp_node (by omega) hfit, shps_none _ _ _ (i + 1) (hss.trans (ansI_none c4p))]
       exact ⟨_, res1 rfl rfl, rfl, H10.pm (Pm.nil _)⟩)
    | (have q_ := c3p
       rw [List.take_of_length_le (by omega)] at hq
       rw [shp_node (by omega) hfit, hq]
       exact ⟨_, res1 rfl rfl, rfl, H10.pm (Pm.nil _)⟩)
    | (rw [shp_node_no (by omega) (fun hh => by unfold nodeFit at hh; omega)]
       exact ⟨_, res1 rfl rfl, rfl, H10.pm (Pm.nil _)⟩)
    | (rw [shp_leaf (by omega) (show leafOk row d.x d.kids.length x at_ from ⟨⟨of_dec g23p, by omega⟩, by omega, by have h_ := c1p; simpa using h_⟩)]
       exact ⟨_, res1 rfl rfl, rfl, H10.pm (Pm.nil _)⟩)
    | (rw [shp_leaf_no (by omega) (fun hh => by first | exact of_ndec g23p hh.1.1 | (have h1_ := hh.1.2; have h2_ := hh.2.1; first | omega | exact c1p (by simpa using hh.2.2)))]
       exact ⟨_, res1 rfl rfl, rfl, H10.pm (Pm.nil _)⟩)

theorem shape_calls {g : Pl} {row : List Int} (hG : GOk g) (hg : g.ok) : ∀ d : Dv, ShapeOk g row d := Tr.ind fun y kids ih => fun a w A B k cr x at_ hrg hr hR hl hat hx hcn => shape_step (d := .mk y kids) hG hg hrg hr hR hl hat hx hcn ih

set_option maxHeartbeats 3200000 in
set_option maxRecDepth 100000 in
theorem rdcheck_calls {g : Pl} {a : PlA} {row : List Int} {w : World} {A B : Option Addr} {k cr : Nat} {d : Dv} (hg : g.ok) (hrg : g.rd w a) (hr : Rd (kTr fDv) w B d.kids) (hR : Rd (kInt .i64) w A row) (hl : row.length ≤ 1099511627776) (hcn : d.cnt ≤ 1099511627776) :
    Calls Try.prog 43 #[.agg #[.slice a.k g.kinds.length a.ck, .slice a.p g.precs.length a.cp, .slice a.r g.rules.length a.cr, .slice a.q g.prods.length a.cq, .int .i64 g.start], .agg #[.int .i64 d.x.prod, .int .i64 d.x.tok, .slice B d.kids.length k], .slice A row.length cr] w fun e w' => ∃ v, e = .returned v ∧ v = .bool (dec (DrvOk g d row)) ∧ Holds w [] w' := by
  have hgk := hg.k
  have hgr := hg.r
  refine calls_of Try.func43 rfl Try.ntmps43 rfl ?_
  have H := Holds.start w
  refine wcR ?_
  refine wl_box (cs := [_, _, _, _, _]) H rfl rfl rfl ?_
  intro b3 w1 hb3 H2
  refine wl_box (cs := [_, _, _]) H2 rfl rfl rfl ?_
  intro b4 w3 hb4 H4
  refine wA ?_
  refine wl_nil ?_
  refine wcR ?_
  refine wV (v_loadN agg44 rfl rfl (H4.ats (by repeat constructor))) ?_
  refine wM ?_
  refine wl_call en69 rfl rfl (refuse_calls (hrg.below H4.old) hg (hR.below H4.old) hl) ?_
  rintro _ w5 ⟨q, rfl, hq, Hc⟩
  have H6 := H4.call0 Hc
  refine wV (v_eql rfl rfl) ?_
  refine wM ?_
  refine wl_guard rfl rfl rfl (fun g11 => ?_) (fun g11 => ?_)
  rotate_left
  ·have g11p := oF g11
   refine wF g11 ?_
   refine wF g11 ?_
   refine wF g11 ?_
   refine wF g11 ?_
   refine wF g11 ?_
   refine wF g11 ?_
   refine wF g11 ?_
   refine wF g11 ?_
   refine wF g11 ?_
   refine wF g11 ?_
   refine wF g11 ?_
   refine wF g11 ?_
   refine wV (v_pick_f rfl g11 rfl) ?_
   refine wA ?_
   refine wl_nil ?_
   refine wc_ret ?_
   first
     | (have q_ := hst
        exact ⟨_, res1 rfl rfl, congrArg Value.bool (dec_eq ⟨fun hd => ⟨(hq.1 g11p).1, (hq.1 g11p).2.2, ansI_is (of_decide_eq_true hd)⟩, fun hh => decide_eq_true (by rw [hh.2.2]; rfl)⟩), H6.pm (Pm.nil _)⟩)
     | exact ⟨_, res1 rfl rfl, congrArg Value.bool (dec_f fun hh => g11p (hq.2 ⟨hh.1, hh.rowAt, hh.2.1⟩)).symm, H6.pm (Pm.nil _)⟩
  have g11p := oT g11
  have hst := (hq.1 g11p).1.2.1.1
  refine wV (v_loadN agg44 rfl rfl (H6.ats (by repeat constructor))) ?_
  refine wO g11 ?_
  refine wV (v_loadN agg50 rfl rfl (H6.ats (by repeat constructor))) ?_
  refine wO g11 ?_
  refine wV (v_fb (o2 := 0) fa44_0 rfl rfl) ?_
  refine wO g11 ?_
  refine wV (v_load one40 rfl (H6.at (by repeat constructor) rfl)) ?_
  refine wO g11 ?_
  refine wV (v_len Try.underlying40 rfl) ?_
  refine wO g11 ?_
  refine wV (v_fb (o2 := 4) fa44_4 rfl rfl) ?_
  refine wO g11 ?_
  refine wV (v_load one3 rfl (H6.at (by repeat constructor) rfl)) ?_
  refine wO g11 ?_
  refine wV (v_addi rfl rfl (by omega)) ?_
  refine wO g11 ?_
  refine wM ?_
  refine wO g11 ?_
  refine wl_call en70 rfl rfl (shape_calls (hq.1 g11p).1 hg d a _ A B k cr (g.kinds.length + g.start) 0 (hrg.below H6.old) (hr.below H6.old) (hR.below H6.old) (hq.1 g11p).2.2 (Nat.zero_le _) (by have h_ := (hq.1 g11p).1.1.1.1; omega) hcn) ?_
  rintro _ w7 ⟨rfl, Hc⟩
  have H8 := H6.call0 Hc
  refine wO g11 ?_
  refine wM ?_
  refine wO g11 ?_
  refine wV (v_len Try.underlying51 rfl) ?_
  refine wO g11 ?_
  refine wV (v_eql rfl rfl) ?_
  refine wV (v_pick_t rfl g11 rfl) ?_
  refine wA ?_
  refine wl_nil ?_
  refine wc_ret ?_
  first
    | (have q_ := hst
       exact ⟨_, res1 rfl rfl, congrArg Value.bool (dec_eq ⟨fun hd => ⟨(hq.1 g11p).1, (hq.1 g11p).2.2, ansI_is (of_decide_eq_true hd)⟩, fun hh => decide_eq_true (by rw [hh.2.2]; rfl)⟩), H8.pm (Pm.nil _)⟩)
    | exact ⟨_, res1 rfl rfl, congrArg Value.bool (dec_f fun hh => g11p (hq.2 ⟨hh.1, hh.rowAt, hh.2.1⟩)).symm, H8.pm (Pm.nil _)⟩
end Go.Proofs.Ytgdemplcpcacaaa.RCheck

/-! What came in, as it reads. -/
namespace Go.Proofs.YtgdemplcpcacaaaFx
open Go Go.RowKit Go.ChangeShapes Go.WideShapes Go.ChangeAt Go.Deep
open Go.Proofs.Ytgdemplcpcacaaa (Rows.uptoBulk Rows.uptoBulkAll Rows.uptoSmall)
theorem bulk_one {H : Type} (d : DataW H) : 1 ≤ Rows.uptoBulk d := by
  cases d with
  | lit l => cases l <;> simp [Rows.uptoBulk]
  | nil => simp [Rows.uptoBulk]
  | ptr d => simp [Rows.uptoBulk]
  | slice elems spare => simp [Rows.uptoBulk]
  | agg parts => simp [Rows.uptoBulk]
  | iface t d => simp [Rows.uptoBulk]
  | map entries => simp [Rows.uptoBulk]
  | held h => simp [Rows.uptoBulk]
theorem bulk_part {H : Type} {d : DataW H} {l : List (DataW H)} (h : d ∈ l) : Rows.uptoBulk d ≤ Rows.uptoBulkAll l := by
  induction l with
  | nil => cases h
  | cons x r ih =>
    simp only [Rows.uptoBulkAll]
    cases List.mem_cons.1 h with
    | inl e => subst e; omega
    | inr e => have := ih e; omega
theorem bulk_len {H : Type} (l : List (DataW H)) : l.length ≤ Rows.uptoBulkAll l := by
  induction l with
  | nil => simp [Rows.uptoBulkAll]
  | cons x r ih => have := bulk_one x; simp only [Rows.uptoBulkAll, List.length_cons]; omega
/-- A kind of elements that a type reads as; B: what is so of an element of such a bulk. -/
structure Rds (P : Program) (t : TypeId) {α : Type} (K : Kn α) (B : α → Nat → Prop) : Prop where
  sz : P.cellsOf t = K.sz
  rd : ∀ {H : Type} {enc : TypeId × Value → H} {w : World} {base : Nat} {spare : Nat → Bool} {held : Bool} {fuel : Nat} {cs : List Value} {x : DataW H × List MemPlace}, DataW.trod enc P w base spare held fuel t cs = some x → ∃ a, K.K w a cs ∧ B a (Rows.uptoBulk x.1)
section
variable {P : Program} {t e : TypeId} {k : IntKind}
theorem rds_int (ht : P.underlying t = some (.int k)) (hc : P.cellsOf t = 1) : Rds P t (kInt k) (fun a n => (Lit.int k a).wf = true ∧ 1 ≤ n) := ⟨hc, fun h => by
  obtain ⟨n, rfl, rfl, hw⟩ := DataW.trod_int ht h
  exact ⟨n, rfl, hw, bulk_one _⟩⟩
theorem rds_str (ht : P.underlying t = some .string) (hc : P.cellsOf t = 1) : Rds P t kStr (fun a n => a.size + 1 ≤ n) := ⟨hc, fun h => by
  obtain ⟨s, rfl, rfl, hw⟩ := DataW.trod_string ht h
  refine ⟨s, rfl, ?_⟩
  simp only [Rows.uptoBulk, Array.length_toList]
  exact Nat.le_refl _⟩
theorem i64_wf {a : Int} (h : (Lit.int .i64 a).wf = true) : I64 a := by
  have e1 : (if IntKind.i64.signed = true then -(2 ^ (IntKind.i64.bits - 1) : Int) else 0) = -9223372036854775808 := rfl
  have h1 : -9223372036854775808 ≤ a ∧ a ≤ 9223372036854775807 := by simpa [Lit.wf, IntKind.min, e1] using h
  exact h1
theorem two_len {cs : List Value} (h : cs.length = 2) : ∃ a b, cs = [a, b] := by
  match cs, h with
  | [a, b], _ => exact ⟨a, b, rfl⟩
theorem rds_mv {f0 f1 : Field} (ht : P.underlying t = some (.struct #[f0, f1])) (he : P.underlying e = some (.int .i64)) (hc : P.cellsOf t = 2) (hce : P.cellsOf e = 1) (h0 : (f0.type, f0.offset) = (e, 0)) (h1 : (f1.type, f1.offset) = (e, 1)) : Rds P t fMv.kn (fun a n => (I64 a.d ∧ I64 a.n) ∧ 1 ≤ n) := ⟨hc, fun {H enc w base spare held fuel cs x} h => by
  simp only [Prod.mk.injEq] at h0 h1
  obtain ⟨y0, y1, n, rfl, hl, e0, e1⟩ := trod_struct2 ht h
  rw [h0.1, h0.2, hce] at e0
  rw [h1.1, h1.2, hce] at e1
  obtain ⟨a, ha, _, wa⟩ := DataW.trod_int he e0
  obtain ⟨b, hb, _, wb⟩ := DataW.trod_int he e1
  rw [hc] at hl
  obtain ⟨c0, c1, rfl⟩ := two_len hl
  · simp at ha hb
    subst ha hb
    exact ⟨⟨a, b⟩, rfl, ⟨i64_wf wa, i64_wf wb⟩, bulk_one _⟩⟩
theorem rds_sl {α : Type} {K : Kn α} {B : α → Nat → Prop} (ht : P.underlying t = some (.slice e)) (hc : P.cellsOf t = 1) (he : Rds P e K B) : Rds P t K.sl (fun xs n => xs.length + 1 ≤ n ∧ ∀ x ∈ xs, ∃ m, m ≤ n ∧ B x m) := ⟨hc, fun {H enc w base spare held fuel cs x} h => by
  rcases open_slice ht h with ⟨rfl, rfl⟩ | ⟨a, len, cap, m, n, D, Pl, rfl, _, hl, hm, hmm, rfl, hx⟩
  · exact ⟨[], ⟨none, 0, rfl, Nat.le_refl _, Rd.nil _ _ _⟩, by simp [Rows.uptoBulk], fun x hx => by simp at hx⟩
  · have hlm : len ≤ m := by rw [hmm]; split <;> omega
    have hex : ∀ i, i < len → ∃ a' : α, (∃ cs', w.cells? base (a.add (i * P.cellsOf e)) (P.cellsOf e) = some cs' ∧ K.K w a' cs') ∧ B a' (Rows.uptoBulk (D i)) := fun i hi => by
      obtain ⟨cs', h1, h2⟩ := hx i (by omega)
      obtain ⟨a', h3, h4⟩ := he.rd h2
      exact ⟨a', ⟨cs', h1, h3⟩, h4⟩
    refine ⟨List.ofFn fun i : Fin len => Classical.choose (hex i.1 i.2), ⟨some a, cap, by rw [List.length_ofFn], by rw [List.length_ofFn]; exact hl, fun _ => rfl, fun j y hy => ?_⟩, ?_, fun y hy => ?_⟩
    · rw [List.getElem?_ofFn] at hy
      split at hy
      · rename_i hj
        simp only [Option.some.injEq] at hy
        subst hy
        obtain ⟨⟨cs', h1, h2⟩, _⟩ := Classical.choose_spec (hex j hj)
        refine ⟨cs', h2, fun i u hu => ?_⟩
        obtain ⟨_, h5, h6⟩ := World.cells?_some h1
        have hi : i < P.cellsOf e := by rw [← h5]; exact (List.getElem?_eq_some_iff.1 hu).1
        have := h6 i hi
        rw [hu, add_add, he.sz] at this
        exact this
      · simp at hy
    · rw [List.length_ofFn]
      have h1 := bulk_len ((List.range len).map D)
      rw [List.length_map, List.length_range] at h1
      simp only [Rows.uptoBulk]
      omega
    · obtain ⟨i, hi⟩ := (List.mem_ofFn ..).1 hy
      subst hi
      refine ⟨Rows.uptoBulk (D i.1), ?_, (Classical.choose_spec (hex i.1 i.2)).2⟩
      have h1 := bulk_part (d := D i.1) (l := (List.range len).map D) (List.mem_map.2 ⟨i.1, List.mem_range.2 i.2, rfl⟩)
      simp only [Rows.uptoBulk]
      omega⟩
/-- A table. -/
def kTb : Kn Tb where
  sz := 2
  K := fun w t cs => ∃ A B ca cb, cs = [.slice A t.mv.length ca, .slice B t.go.length cb] ∧ t.rd w A B
  len := fun ⟨_, _, _, _, h, _⟩ => by rw [h]; rfl
  one := fun ⟨_, _, _, _, h, _⟩ u hu => by
    rw [h] at hu
    simp only [List.mem_cons, List.not_mem_nil, or_false] at hu
    rcases hu with rfl | rfl <;> rfl
  st := fun hb ⟨A, B, ca, cb, h, hr⟩ => ⟨A, B, ca, cb, h, hr.below hb⟩
theorem rds_tb {f0 f1 : Field} {t0 t1 : TypeId} (ht : P.underlying t = some (.struct #[f0, f1])) (hc : P.cellsOf t = 2) (h0 : (f0.type, f0.offset) = (t0, 0)) (h1 : (f1.type, f1.offset) = (t1, 1))
    {B0 B1 : _} (r0 : Rds P t0 fMv.kn.sl.sl B0) (r1 : Rds P t1 (kInt .i64).sl.sl B1) : Rds P t kTb (fun a n => ∃ n0 n1, n0 + n1 ≤ n ∧ B0 a.mv n0 ∧ B1 a.go n1) := ⟨hc, fun {H enc w base spare held fuel cs x} h => by
  simp only [Prod.mk.injEq] at h0 h1
  obtain ⟨y0, y1, n, rfl, hl, e0, e1⟩ := trod_struct2 ht h
  rw [h0.1, h0.2] at e0
  rw [h1.1, h1.2] at e1
  have s0 : P.cellsOf t0 = 1 := r0.sz
  have s1 : P.cellsOf t1 = 1 := r1.sz
  rw [s0] at e0
  rw [s1] at e1
  obtain ⟨mv, ⟨A, ca, ha, _, hra⟩, b0⟩ := r0.rd e0
  obtain ⟨go, ⟨B, cb, hb, _, hrb⟩, b1⟩ := r1.rd e1
  rw [hc] at hl
  obtain ⟨c0, c1, rfl⟩ := two_len hl
  · simp at ha hb
    subst ha hb
    exact ⟨⟨mv, go⟩, ⟨A, B, ca, cb, rfl, hra, hrb⟩, _, _, by simp only [Rows.uptoBulk, Rows.uptoBulkAll]; omega, b0, b1⟩⟩
def BRow (K : List Mv → Nat → Prop) : Prop := True
abbrev BMv (xs : List Mv) (n : Nat) : Prop := xs.length + 1 ≤ n ∧ ∀ x ∈ xs, ∃ m, m ≤ n ∧ (I64 x.d ∧ I64 x.n) ∧ 1 ≤ m
abbrev BInt (xs : List Int) (n : Nat) : Prop := xs.length + 1 ≤ n ∧ ∀ x ∈ xs, ∃ m, m ≤ n ∧ (Lit.int .i64 x).wf = true ∧ 1 ≤ m
theorem tb_ok {a : Tb} {n0 n1 : Nat} (h0 : a.mv.length + 1 ≤ n0 ∧ ∀ x ∈ a.mv, ∃ m, m ≤ n0 ∧ BMv x m) (h1 : a.go.length + 1 ≤ n1 ∧ ∀ x ∈ a.go, ∃ m, m ≤ n1 ∧ BInt x m) (hn : n0 + n1 ≤ 1048576) : a.ok :=
  ⟨by omega, by omega, fun r hr => by
    obtain ⟨m, hm, h2, h3⟩ := h0.2 r hr
    exact ⟨by omega, fun x hx => by obtain ⟨_, _, h4, _⟩ := h3 x hx; exact h4⟩, fun r hr => by
    obtain ⟨m, hm, h2, h3⟩ := h1.2 r hr
    exact ⟨by omega, fun x hx => by obtain ⟨_, _, h4, _⟩ := h3 x hx; exact i64_wf h4⟩⟩
end
end Go.Proofs.YtgdemplcpcacaaaFx

/-! Numbers, seven bits a byte: plain; bit operations and divisions. -/
namespace Go.Proofs.YtgdemplcpcacaaaFx
open Go Go.RowKit
section
variable {P : Program} {n : Nat} {l : Fr} {w : World} {x y : Operand} {ty t t2 : TypeId} {pos : String} {af : Array Edge} {gd : Option (Nat × Bool)} {dst : Option Tmp} {i j : Int} {k : IntKind}
theorem v_and (hx : ev l x = some (.int k i)) (hy : ev l y = some (.int k j)) : Vs P n l ⟨dst, .binOp .and t x y t2, ty, pos, af, gd⟩ w (.int k (bits .and k i j)) := fun a ha => by simp [execOp, ha.eval hx, ha.eval hy, eqGuard_at_int, binOp_and, intBits_and]
theorem v_or (hx : ev l x = some (.int k i)) (hy : ev l y = some (.int k j)) : Vs P n l ⟨dst, .binOp .or t x y t2, ty, pos, af, gd⟩ w (.int k (bits .or k i j)) := fun a ha => by simp [execOp, ha.eval hx, ha.eval hy, eqGuard_at_int, binOp_or, intBits_or]
theorem v_rem (hx : ev l x = some (.int k i)) (hy : ev l y = some (.int k j)) (h0 : j ≠ 0) : Vs P n l ⟨dst, .binOp .rem t x y t2, ty, pos, af, gd⟩ w (.int k (Int.tmod i j)) := fun a ha => by
  simp [execOp, ha.eval hx, ha.eval hy, eqGuard_at_int, binOp_rem, Op.intDiv, h0]
theorem v_quo (hx : ev l x = some (.int k i)) (hy : ev l y = some (.int k j)) (h0 : j ≠ 0) : Vs P n l ⟨dst, .binOp .quo t x y t2, ty, pos, af, gd⟩ w (.int k (k.wrap (Int.tdiv i j))) := fun a ha => by
  simp [execOp, ha.eval hx, ha.eval hy, eqGuard_at_int, binOp_quo, Op.intDiv, h0]
end
theorem or128 {a : Int} (h : 0 ≤ a ∧ a < 256) : bits .or .u8 a 128 = a % 128 + 128 := by
  obtain ⟨n, rfl⟩ := Int.eq_ofNat_of_zero_le h.1
  have hn : n < 256 := by omega
  have h1 := (bits_nat .u8 8 (by decide) wraps_u8 n 128 (by simpa using hn) (by decide)).2
  have h2 : ∀ n : Fin 256, (n.1 ||| 128) = n.1 % 128 + 128 := by decide +kernel
  have h3 := h2 ⟨n, hn⟩
  dsimp only at h3
  rw [show (128 : Int) = ((128 : Nat) : Int) from rfl, h1, h3]
  omega
theorem and127 {a : Int} (h : 0 ≤ a ∧ a < 256) : bits .and .u8 a 127 = a % 128 := bits_mask .u8 8 (by decide) wraps_u8 7 (by decide) a h.1 (by have := h.2; omega)
theorem wraps_i64 (n : Int) (h₀ : 0 ≤ n) (h₁ : n < 2 ^ 62) : IntKind.i64.wrap n = n := by rw [IntKind.wrap_i64]; omega
theorem or_low {a c s : Nat} (ha : a < 2 ^ s) (hc : c * 2 ^ s < 2 ^ 62) (ha2 : a < 2 ^ 62) : bits .or .i64 (a : Int) ((c * 2 ^ s : Nat) : Int) = ((a + c * 2 ^ s : Nat) : Int) := by
  rw [(bits_nat .i64 62 (by decide) wraps_i64 a (c * 2 ^ s) ha2 hc).2, Nat.or_comm, Nat.mul_comm c, ← Nat.two_pow_add_eq_or_of_lt ha, Nat.add_comm]
/-- A number's bytes. -/
def vint (n : Nat) : List Int := if n < 128 then [(n : Int)] else ((n % 128 + 128 : Nat) : Int) :: vint (n / 128)
termination_by n
theorem vint_lt {n : Nat} (h : n < 128) : vint n = [(n : Int)] := by rw [vint, if_pos h]
theorem vint_ge {n : Nat} (h : ¬ n < 128) : vint n = ((n % 128 + 128 : Nat) : Int) :: vint (n / 128) := by rw [vint, if_neg h]
theorem vint_len : ∀ (k n : Nat), n < 128 ^ k → 1 ≤ k → (vint n).length ≤ k
  | 0, _, _, h => by omega
  | k + 1, n, h, _ => by
    rcases Nat.lt_or_ge n 128 with h1 | h1
    · rw [vint_lt h1]; simp
    · rw [vint_ge (by omega), List.length_cons]
      rcases Nat.eq_zero_or_pos k with rfl | hk
      · simp at h; omega
      · have := vint_len k (n / 128) (by rw [Nat.pow_succ] at h; exact Nat.div_lt_of_lt_mul (by rw [Nat.mul_comm]; exact h)) hk
        omega
theorem vint_pos (n : Nat) : 1 ≤ (vint n).length := by
  rcases Nat.lt_or_ge n 128 with h1 | h1
  · rw [vint_lt h1]; simp
  · rw [vint_ge (by omega), List.length_cons]; omega
theorem vint_bytes : ∀ (n : Nat), ∀ x ∈ vint n, 0 ≤ x ∧ x < 256 := by
  intro n
  induction n using Nat.strongRecOn with
  | _ n ih =>
    intro x hx
    rcases Nat.lt_or_ge n 128 with h1 | h1
    · rw [vint_lt h1, List.mem_singleton] at hx; omega
    · rw [vint_ge (by omega)] at hx
      rcases List.mem_cons.1 hx with rfl | hx
      · omega
      · exact ih (n / 128) (by omega) x hx
/-- A number read: at most k bytes are left, acc is what was read, sh its bits. -/
def numG : Nat → Nat → Nat → List Int → Option (Nat × List Int)
  | 0, _, _, _ => none
  | _ + 1, _, _, [] => none
  | k + 1, acc, sh, c :: r =>
    if c < 128 then if (c = 0 ∧ 0 < sh) ∨ 2147483647 < acc + (c.toNat % 128) * 2 ^ sh then none else some (acc + (c.toNat % 128) * 2 ^ sh, r)
    else numG k (acc + (c.toNat % 128) * 2 ^ sh) (sh + 7) r
def num (bs : List Int) : Option (Nat × List Int) := numG 5 0 0 bs
def Bytes (bs : List Int) : Prop := ∀ x ∈ bs, 0 ≤ x ∧ x < 256
theorem numG_big : ∀ (k acc sh : Nat) (bs : List Int), 2147483647 < acc → numG k acc sh bs = none
  | 0, _, _, _, _ => rfl
  | _ + 1, _, _, [], _ => rfl
  | k + 1, acc, sh, c :: r, h => by
    unfold numG
    split
    · rw [if_pos (.inr (by omega))]
    · exact numG_big k _ _ r (by omega)
theorem numG_vint : ∀ (k acc sh m : Nat) (r : List Int), m < 128 ^ k → 1 ≤ k → acc + m * 2 ^ sh ≤ 2147483647 → (m ≠ 0 ∨ sh = 0) → numG k acc sh (vint m ++ r) = some (acc + m * 2 ^ sh, r)
  | 0, acc, sh, m, r, h, h0, h2, h3 => by omega
  | k + 1, acc, sh, m, r, h, h0, h2, h3 => by
    have hdiv : m / 128 < 128 ^ k := by rw [Nat.pow_succ] at h; exact Nat.div_lt_of_lt_mul (by rw [Nat.mul_comm]; exact h)
    rcases Nat.lt_or_ge m 128 with h1 | h1
    · rw [vint_lt h1]
      show numG (k + 1) acc sh ((m : Int) :: r) = _
      unfold numG
      rw [if_pos (by omega), Int.toNat_natCast, Nat.mod_eq_of_lt h1, if_neg (by omega)]
    · rw [vint_ge (by omega)]
      show numG (k + 1) acc sh (((m % 128 + 128 : Nat) : Int) :: (vint (m / 128) ++ r)) = _
      have e1 : (m % 128 + 128) % 128 = m % 128 := by omega
      have e2 : acc + m % 128 * 2 ^ sh + m / 128 * 2 ^ (sh + 7) = acc + m * 2 ^ sh := by
        have h5 : m / 128 * 2 ^ (sh + 7) = (m / 128 * 128) * 2 ^ sh := by rw [Nat.pow_add, Nat.mul_comm (2 ^ sh), ← Nat.mul_assoc]
        have h6 : m % 128 + m / 128 * 128 = m := Nat.mod_add_div' m 128
        rw [h5, Nat.add_assoc, ← Nat.add_mul, h6]
      unfold numG
      rw [if_neg (by omega), Int.toNat_natCast, e1]
      have := numG_vint k (acc + m % 128 * 2 ^ sh) (sh + 7) (m / 128) r hdiv (by
        rcases Nat.eq_zero_or_pos k with rfl | hk
        · simp at h; omega
        · exact hk) (by rw [e2]; exact h2) (.inl (by omega))
      rw [this, e2]
theorem numG_is : ∀ (k acc sh n : Nat) (bs r : List Int), Bytes bs → numG k acc sh bs = some (n, r) → ∃ m, bs = vint m ++ r ∧ n = acc + m * 2 ^ sh ∧ n ≤ 2147483647 ∧ (m ≠ 0 ∨ sh = 0)
  | 0, _, _, _, _, _, _, h => by simp [numG] at h
  | _ + 1, _, _, _, [], _, _, h => by simp [numG] at h
  | k + 1, acc, sh, n, c :: r0, r, hB, h => by
    have hc := hB c (List.mem_cons_self ..)
    unfold numG at h
    split at h
    · rename_i h1
      split at h
      · cases h
      · rename_i h2
        injection h with h
        injection h with h3 h4
        subst h4
        have e : c.toNat % 128 = c.toNat := by omega
        rw [e] at h2 h3
        refine ⟨c.toNat, ?_, h3.symm, by omega, by omega⟩
        rw [vint_lt (by omega)]
        show c :: r0 = (c.toNat : Int) :: r0
        rw [Int.toNat_of_nonneg hc.1]
    · rename_i h1
      obtain ⟨m, rfl, hn, hle, hm⟩ := numG_is k _ _ n r0 r (fun x hx => hB x (List.mem_cons_of_mem _ hx)) h
      have hm0 : m ≠ 0 := hm.resolve_right (by omega)
      have e0 : c.toNat % 128 = c.toNat - 128 := by omega
      refine ⟨(c.toNat - 128) + 128 * m, ?_, ?_, hle, .inl (by omega)⟩
      · rw [vint_ge (n := (c.toNat - 128) + 128 * m) (by omega)]
        have e1 : ((c.toNat - 128) + 128 * m) % 128 + 128 = c.toNat := by omega
        have e2 : ((c.toNat - 128) + 128 * m) / 128 = m := by omega
        rw [e1, e2, Int.toNat_of_nonneg hc.1]
        rfl
      · rw [hn, e0, Nat.add_assoc]
        congr 1
        rw [Nat.add_mul, Nat.pow_add]
        congr 1
        rw [Nat.mul_comm 128 m, Nat.mul_assoc, Nat.mul_comm 128]
theorem num_vint {n : Nat} (r : List Int) (h : n ≤ 2147483647) : num (vint n ++ r) = some (n, r) := by
  have := numG_vint 5 0 0 n r (by simp only [Nat.reducePow]; omega) (by decide) (by simpa using h) (.inr rfl)
  simpa [num] using this
theorem num_is {n : Nat} {bs r : List Int} (hB : Bytes bs) (h : num bs = some (n, r)) : bs = vint n ++ r ∧ n ≤ 2147483647 := by
  obtain ⟨m, h1, h2, h3, _⟩ := numG_is 5 0 0 n bs r hB h
  rw [Nat.pow_zero, Nat.mul_one, Nat.zero_add] at h2
  subst h2
  exact ⟨h1, h3⟩
end Go.Proofs.YtgdemplcpcacaaaFx

/-! A table's bytes: plain. -/
namespace Go.Proofs.YtgdemplcpcacaaaFx
open Go Go.RowKit
def okMv (m : Mv) : Prop := 0 ≤ m.d ∧ m.d ≤ 2147483647 ∧ 0 ≤ m.n ∧ m.n ≤ 2147483647
def okGo (x : Int) : Prop := -1 ≤ x ∧ x < 2147483647
def mvB (m : Mv) : List Int := vint m.d.toNat ++ vint m.n.toNat
def goB (x : Int) : List Int := vint (x + 1).toNat
def mvsB (ms : List Mv) : List Int := ms.flatMap mvB
def gosB (xs : List Int) : List Int := xs.flatMap goB
def rowB (t : Tb) (s : Nat) : List Int := mvsB (t.mv.getD s []) ++ gosB (t.go.getD s [])
def rowsB (t : Tb) (i : Nat) : List Int := (List.range i).flatMap (rowB t)
def headB (t : Tb) : List Int := vint t.mv.length ++ vint (t.mv.getD 0 []).length ++ vint (t.go.getD 0 []).length
def tbB (t : Tb) : List Int := headB t ++ rowsB t t.mv.length
def RowOk2 (t : Tb) (s : Nat) : Prop := (∀ m ∈ t.mv.getD s [], okMv m) ∧ ∀ x ∈ t.go.getD s [], okGo x
def ByOk (t : Tb) : Prop := Rect t ∧ ∀ s, s < t.mv.length → RowOk2 t s
noncomputable def bytesA (t : Tb) : List Int := if dec (ByOk t) then tbB t else []
noncomputable def bytesE (t : Tb) : Int := if dec (ByOk t) then 0 else 170
theorem by_t {t : Tb} (h : ByOk t) : bytesA t = tbB t ∧ bytesE t = 0 := by rw [bytesA, bytesE, dec_t h]; exact ⟨rfl, rfl⟩
theorem by_f {t : Tb} (h : ¬ ByOk t) : bytesA t = [] ∧ bytesE t = 170 := by rw [bytesA, bytesE, dec_f h]; exact ⟨rfl, rfl⟩
/-- A table of bulk at most the bound. -/
structure BSm (t : Tb) : Prop where
  ok : t.ok
  m : t.mv.length ≤ 1048576
  mr : ∀ r ∈ t.mv, r.length ≤ 1048576
  gr : ∀ r ∈ t.go, r.length ≤ 1048576
theorem BSm.ml {t : Tb} (h : BSm t) {i : Nat} (hi : i < t.mv.length) : (t.mv.getD i []).length ≤ 1048576 := h.mr _ (getD_mem hi)
theorem BSm.gl {t : Tb} (h : BSm t) {i : Nat} (hi : i < t.go.length) : (t.go.getD i []).length ≤ 1048576 := h.gr _ (getD_mem hi)
theorem vint5 {n : Nat} (h : n ≤ 2147483647) : (vint n).length ≤ 5 := vint_len 5 n (by simp only [Nat.reducePow]; omega) (by decide)
theorem mvsB_len {ms : List Mv} (h : ∀ m ∈ ms, okMv m) : (mvsB ms).length ≤ 10 * ms.length := by
  induction ms with
  | nil => simp [mvsB]
  | cons m r ih =>
    have h1 := ih fun x hx => h x (List.mem_cons_of_mem _ hx)
    obtain ⟨h2, h3, h4, h5⟩ := h m (List.mem_cons_self ..)
    have v1 := vint5 (n := m.d.toNat) (by omega)
    have v2 := vint5 (n := m.n.toNat) (by omega)
    show (mvB m ++ mvsB r).length ≤ _
    rw [List.length_append, mvB, List.length_append, List.length_cons]
    omega
theorem gosB_len {xs : List Int} (h : ∀ x ∈ xs, okGo x) : (gosB xs).length ≤ 5 * xs.length := by
  induction xs with
  | nil => simp [gosB]
  | cons m r ih =>
    have h1 := ih fun x hx => h x (List.mem_cons_of_mem _ hx)
    obtain ⟨h2, h3⟩ := h m (List.mem_cons_self ..)
    have v1 := vint5 (n := (m + 1).toNat) (by omega)
    show (goB m ++ gosB r).length ≤ _
    rw [List.length_append, goB, List.length_cons]
    omega
theorem rowsB_succ (t : Tb) (i : Nat) : rowsB t (i + 1) = rowsB t i ++ mvsB (t.mv.getD i []) ++ gosB (t.go.getD i []) := by
  rw [rowsB, List.range_succ, List.flatMap_append, List.append_assoc]
  simp [rowsB, rowB]
theorem rowsB_len {t : Tb} (hs : BSm t) (hg : t.go.length = t.mv.length) : ∀ i, i ≤ t.mv.length → (∀ s, s < i → RowOk2 t s) → (rowsB t i).length ≤ i * 15728640
  | 0, _, _ => by simp [rowsB]
  | i + 1, hi, h => by
    have h1 := rowsB_len hs hg i (by omega) fun s hs => h s (by omega)
    have h2 := mvsB_len (h i (by omega)).1
    have h3 := gosB_len (h i (by omega)).2
    have h4 := hs.ml (i := i) (by omega)
    have h5 := hs.gl (i := i) (by omega)
    rw [rowsB_succ, List.length_append, List.length_append]
    omega
theorem headB_len {t : Tb} (hs : BSm t) (hg : t.go.length = t.mv.length) (h0 : 0 < t.mv.length) : (headB t).length ≤ 15 := by
  have h1 := vint5 (n := t.mv.length) (by have := hs.m; omega)
  have h2 := vint5 (n := (t.mv.getD 0 []).length) (by have := hs.ml (i := 0) h0; omega)
  have h3 := vint5 (n := (t.go.getD 0 []).length) (by have := hs.gl (i := 0) (by omega); omega)
  rw [headB, List.length_append, List.length_append]
  omega
theorem mvsB_succ {ms : List Mv} {j : Nat} (h : j < ms.length) : mvsB (ms.take (j + 1)) = mvsB (ms.take j) ++ vint (ms.getD j mv0).d.toNat ++ vint (ms.getD j mv0).n.toNat := by
  rw [mvsB, take_succ' mv0 h, List.flatMap_append, List.append_assoc]
  simp [mvsB, mvB]
theorem gosB_succ {xs : List Int} {j : Nat} (h : j < xs.length) : gosB (xs.take (j + 1)) = gosB (xs.take j) ++ vint (xs.getD j 0 + 1).toNat := by
  rw [gosB, take_succ' 0 h, List.flatMap_append]
  simp [gosB, goB]
theorem take_ok {α : Type} {p : α → Prop} {xs : List α} {j : Nat} (z : α) (hj : j < xs.length) (h : ∀ x ∈ xs.take j, p x) (hx : p (xs.getD j z)) : ∀ x ∈ xs.take (j + 1), p x := fun x hxm => by
  rw [take_succ' z hj, List.mem_append, List.mem_singleton] at hxm
  rcases hxm with h1 | rfl
  · exact h x h1
  · exact hx
theorem out0 {t : Tb} (hs : BSm t) (hg : t.go.length = t.mv.length) (h0 : 0 < t.mv.length) {i : Nat} (hi : i ≤ t.mv.length) (h : ∀ s, s < i → RowOk2 t s) : (headB t ++ rowsB t i).length ≤ 20000000000000 := by
  have h1 := headB_len hs hg h0
  have h2 := rowsB_len hs hg i hi h
  have h3 := hs.m
  rw [List.length_append]
  omega
theorem out1 {t : Tb} (hs : BSm t) (hg : t.go.length = t.mv.length) {i j : Nat} (hi : i < t.mv.length) (h : ∀ s, s < i → RowOk2 t s) (hj : ∀ m ∈ (t.mv.getD i []).take j, okMv m) : (headB t ++ rowsB t i ++ mvsB ((t.mv.getD i []).take j)).length ≤ 30000000000000 := by
  have h1 := out0 hs hg (by omega) (Nat.le_of_lt hi) h
  have h2 := mvsB_len hj
  have h3 := hs.ml hi
  rw [List.length_take] at h2
  rw [List.length_append]
  omega
theorem out2 {t : Tb} (hs : BSm t) (hg : t.go.length = t.mv.length) {i j : Nat} (hi : i < t.mv.length) (h : ∀ s, s < i → RowOk2 t s) (hm : ∀ m ∈ t.mv.getD i [], okMv m) (hj : ∀ x ∈ (t.go.getD i []).take j, okGo x) : (headB t ++ rowsB t i ++ mvsB (t.mv.getD i []) ++ gosB ((t.go.getD i []).take j)).length ≤ 40000000000000 := by
  have h1 := out1 (j := (t.mv.getD i []).length) hs hg hi h (by rw [List.take_length]; exact hm)
  have h2 := gosB_len hj
  have h3 := hs.gl (i := i) (by omega)
  rw [List.take_length] at h1
  rw [List.length_take] at h2
  rw [List.length_append]
  omega
end Go.Proofs.YtgdemplcpcacaaaFx

/-! What came in, its rows' lengths together. -/
namespace Go.Proofs.YtgdemplcpcacaaaFx
open Go Go.RowKit Go.ChangeShapes Go.WideShapes Go.ChangeAt Go.Deep
open Go.Proofs.Ytgdemplcpcacaaa (Rows.uptoBulk Rows.uptoBulkAll Rows.uptoSmall)
theorem sum_le : ∀ {l1 l2 : List Nat}, l1.length = l2.length → (∀ j (h1 : j < l1.length) (h2 : j < l2.length), l1[j] ≤ l2[j]) → l1.sum ≤ l2.sum
  | [], [], _, _ => Nat.le_refl _
  | [], _ :: _, h, _ => by simp at h
  | _ :: _, [], h, _ => by simp at h
  | a :: l1, b :: l2, h, hj => by
    rw [List.sum_cons, List.sum_cons]
    have h0 := hj 0 (by simp) (by simp)
    have ih := sum_le (l1 := l1) (l2 := l2) (by simpa using h) fun j h1 h2 => by
      have := hj (j + 1) (by simp; exact h1) (by simp; exact h2)
      simpa using this
    simp only [List.getElem_cons_zero] at h0
    omega
theorem bulk_sum {H : Type} : ∀ l : List (DataW H), Rows.uptoBulkAll l = (l.map Rows.uptoBulk).sum
  | [] => rfl
  | x :: r => by rw [Rows.uptoBulkAll, bulk_sum r, List.map_cons, List.sum_cons]
section
variable {P : Program} {t e : TypeId}
theorem rds_slS {α : Type} {K : Kn α} {B : α → Nat → Prop} (μ : α → Nat) (hμ : ∀ a n, B a n → μ a ≤ n) (ht : P.underlying t = some (.slice e)) (hc : P.cellsOf t = 1) (he : Rds P e K B) : Rds P t K.sl (fun xs n => ((xs.map μ).sum + 1 ≤ n ∧ xs.length + 1 ≤ n) ∧ ∀ x ∈ xs, ∃ m, m ≤ n ∧ B x m) := ⟨hc, fun {H enc w base spare held fuel cs x} h => by
  rcases open_slice ht h with ⟨rfl, rfl⟩ | ⟨a, len, cap, m, n, D, Pl, rfl, _, hl, hm, hmm, rfl, hx⟩
  · exact ⟨[], ⟨none, 0, rfl, Nat.le_refl _, Rd.nil _ _ _⟩, by simp [Rows.uptoBulk], fun x hx => by simp at hx⟩
  · have hlm : len ≤ m := by rw [hmm]; split <;> omega
    have hex : ∀ i, i < len → ∃ a' : α, (∃ cs', w.cells? base (a.add (i * P.cellsOf e)) (P.cellsOf e) = some cs' ∧ K.K w a' cs') ∧ B a' (Rows.uptoBulk (D i)) := fun i hi => by
      obtain ⟨cs', h1, h2⟩ := hx i (by omega)
      obtain ⟨a', h3, h4⟩ := he.rd h2
      exact ⟨a', ⟨cs', h1, h3⟩, h4⟩
    refine ⟨List.ofFn fun i : Fin len => Classical.choose (hex i.1 i.2), ⟨some a, cap, by rw [List.length_ofFn], by rw [List.length_ofFn]; exact hl, fun _ => rfl, fun j y hy => ?_⟩, ⟨?_, ?_⟩, fun y hy => ?_⟩
    · rw [List.getElem?_ofFn] at hy
      split at hy
      · rename_i hj
        simp only [Option.some.injEq] at hy
        subst hy
        obtain ⟨⟨cs', h1, h2⟩, _⟩ := Classical.choose_spec (hex j hj)
        refine ⟨cs', h2, fun i u hu => ?_⟩
        obtain ⟨_, h5, h6⟩ := World.cells?_some h1
        have hi : i < P.cellsOf e := by rw [← h5]; exact (List.getElem?_eq_some_iff.1 hu).1
        have := h6 i hi
        rw [hu, add_add, he.sz] at this
        exact this
      · simp at hy
    · have h1 : ((List.ofFn fun i : Fin len => Classical.choose (hex i.1 i.2)).map μ).sum ≤ (((List.range len).map D).map Rows.uptoBulk).sum := sum_le (by simp) fun j h1 h2 => by
        simp only [List.getElem_map, List.getElem_ofFn, List.getElem_range]
        have hj : j < len := by simpa using h1
        exact hμ _ _ (Classical.choose_spec (hex j hj)).2
      rw [← bulk_sum] at h1
      simp only [Rows.uptoBulk]
      omega
    · rw [List.length_ofFn]
      have h1 := bulk_len ((List.range len).map D)
      rw [List.length_map, List.length_range] at h1
      simp only [Rows.uptoBulk]
      omega
    · obtain ⟨i, hi⟩ := (List.mem_ofFn ..).1 hy
      subst hi
      refine ⟨Rows.uptoBulk (D i.1), ?_, (Classical.choose_spec (hex i.1 i.2)).2⟩
      have h1 := bulk_part (d := D i.1) (l := (List.range len).map D) (List.mem_map.2 ⟨i.1, List.mem_range.2 i.2, rfl⟩)
      simp only [Rows.uptoBulk]
      omega⟩
end
/-- So many elements in all rows. -/
def rowsN {α : Type} (xs : List (List α)) : Nat := (xs.map fun r => r.length + 1).sum
theorem rowsN_succ {α : Type} {xs : List (List α)} {i : Nat} (h : i < xs.length) : rowsN (xs.take (i + 1)) = rowsN (xs.take i) + ((xs.getD i []).length + 1) := by
  rw [rowsN, take_succ' [] h, List.map_append, List.sum_append]
  simp [rowsN]
theorem rowsB_len2 {t : Tb} (hg : t.go.length = t.mv.length) : ∀ i, i ≤ t.mv.length → (∀ s, s < i → RowOk2 t s) → (rowsB t i).length ≤ 10 * rowsN (t.mv.take i) + 5 * rowsN (t.go.take i)
  | 0, _, _ => by simp [rowsB]
  | i + 1, hi, h => by
    have h1 := rowsB_len2 hg i (by omega) fun s hs => h s (by omega)
    have h2 := mvsB_len (h i (by omega)).1
    have h3 := gosB_len (h i (by omega)).2
    rw [rowsB_succ, List.length_append, List.length_append, rowsN_succ (by omega), rowsN_succ (by omega)]
    omega
theorem tbB_len {t : Tb} (hb : BSm t) (h : ByOk t) (h1 : rowsN t.mv ≤ 1048576) (h2 : rowsN t.go ≤ 1048576) : (tbB t).length ≤ 549755813888 := by
  obtain ⟨⟨r1, r2, r3, r4⟩, hok⟩ := h
  have h3 := headB_len hb r3 r1
  have h4 := rowsB_len2 r3 t.mv.length (Nat.le_refl _) hok
  rw [List.take_length, show t.go.take t.mv.length = t.go by rw [← r3, List.take_length]] at h4
  rw [tbB, List.length_append]
  omega
end Go.Proofs.YtgdemplcpcacaaaFx
