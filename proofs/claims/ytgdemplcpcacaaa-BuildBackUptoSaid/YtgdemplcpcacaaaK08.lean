/- What data mean. An action's type, walked. -/
import Derived.Test.YtgdemplcpcacaaaProg
import Derived.Test.YtgdemplcpcacaaaK03
import Derived.Test.YtgdemplcpcacaaaK04
import Derived.Test.YtgdemplcpcacaaaK05
import Derived.Test.YtgdemplcpcacaaaK07
set_option linter.unusedVariables false
set_option linter.unusedSimpArgs false
/-! What data mean. -/
namespace Go.Proofs.Ytgdemplcpcacaaa.KnownD
open Go Go.RowKit Go.Proofs.YtgdemplcpcacaaaFx Go.Proofs.Ytgdemplcpcacaaa.NameW Go.Proofs.Ytgdemplcpcacaaa.KindsW
theorem agg80 : Agg Try.prog 80 2 := agg_of Try.underlying80 (by kernel_rfl)
theorem agg83 : Agg Try.prog 83 2 := agg_of Try.underlying83 (by kernel_rfl)
theorem ba126 : BuildAt Try.prog 126 [.map none, .map none, .map none] [(0, 1), (1, 1), (2, 1)] := build_at Try.underlying126 (by kernel_rfl) (by kernel_rfl)
theorem en55 : Enters Try.prog 55 := enters Try.func55 (by kernel_rfl) rfl
theorem fa126_0 : FieldAt Try.prog 126 0 0 := field_at (sz := 0) Try.underlying126 rfl (by kernel_rfl) rfl
theorem fa126_1 : FieldAt Try.prog 126 1 1 := field_at (sz := 0) Try.underlying126 rfl (by kernel_rfl) rfl
theorem fa126_2 : FieldAt Try.prog 126 2 2 := field_at (sz := 0) Try.underlying126 rfl (by kernel_rfl) rfl
theorem fa80_0 : FieldAt Try.prog 80 0 0 := field_at (sz := 0) Try.underlying80 rfl (by kernel_rfl) rfl
theorem fa80_1 : FieldAt Try.prog 80 1 1 := field_at (sz := 0) Try.underlying80 rfl (by kernel_rfl) rfl
theorem fa83_0 : FieldAt Try.prog 83 0 0 := field_at (sz := 0) Try.underlying83 rfl (by kernel_rfl) rfl
theorem fa83_1 : FieldAt Try.prog 83 1 1 := field_at (sz := 0) Try.underlying83 rfl (by kernel_rfl) rfl
theorem mixed : Try.prog.follows .mixedOrders = true := by kernel_rfl
theorem one122 : One Try.prog 122 := one_of Try.underlying122 rfl (by kernel_rfl)
theorem one123 : One Try.prog 123 := one_of Try.underlying123 rfl (by kernel_rfl)
theorem one124 : One Try.prog 124 := one_of Try.underlying124 rfl (by kernel_rfl)
theorem one40 : One Try.prog 40 := one_of Try.underlying40 rfl (by kernel_rfl)
theorem one81 : One Try.prog 81 := one_of Try.underlying81 rfl (by kernel_rfl)
theorem one9 : One Try.prog 9 := one_of Try.underlying9 rfl (by kernel_rfl)
theorem sz80 : ∀ W, (sizeOf 80).run Try.prog W = .ok 2 W := size_of (by kernel_rfl)
theorem sz83 : ∀ W, (sizeOf 83).run Try.prog W = .ok 2 W := size_of (by kernel_rfl)
theorem sz9 : ∀ W, (sizeOf 9).run Try.prog W = .ok 1 W := size_of (by kernel_rfl)
theorem zv4 : ∀ W, (zeroValue 4).run Try.prog W = .ok (.bool false) W := zero_of (by kernel_rfl)
theorem zv80 : ∀ W, (zeroValue 80).run Try.prog W = .ok (.agg #[.string ⟨#[]⟩, .slice none 0 0]) W := zero_of (by kernel_rfl)
theorem zv83 : ∀ W, (zeroValue 83).run Try.prog W = .ok (.agg #[.string ⟨#[]⟩, .slice none 0 0]) W := zero_of (by kernel_rfl)

abbrev VId : Value → Value := fun v => v

set_option maxHeartbeats 12800000 in
set_option maxRecDepth 100000 in
theorem known_calls {l : List Dt} {A : Option Addr} {cd : Nat} {w0 w : World} {L : List Ch} (hl : DOk l) (hr : Rd kDt w0 A l) (HH : Holds w0 L w) :
    Calls Try.prog 48 #[.slice A l.length cd] w fun e w' => ∃ v, e = .returned v ∧ ∃ (bd b0 b1 b2 : Nat) (fC : ByteArray → Option Value), v = .tuple #[.pointer (some ⟨bd, 0, none⟩), .int .i64 (dataE l)] ∧ Holds w0 L w' ∧ (dataE l = 0 → CRel w0 (flat l) fC ∧ Holds w0 (Blk bd 126 [.map (some b0), .map (some b1), .map (some b2)] :: Mp KS Value.bool b0 l.length (metF (nms l)) :: Mp KS VId b1 (flat l).length fC :: Mp KS Value.string b2 (flat l).length (ofF (flat l)) :: L) w') := by
  have hll := hl.len
  have hlf := hl.f
  refine calls_of Try.func48 rfl Try.ntmps48 rfl ?_
  have H := HH
  refine wcR ?_
  refine wA ?_
  refine wA ?_
  refine wl_nil ?_
  refine wcR ?_
  refine wl_mkmap KS Value.bool H rfl ?_
  intro b0 w1 hb0 H1
  refine wl_mkmap KS VId H1 rfl ?_
  intro b1 w2 hb1 H2
  refine wl_mkmap KS Value.string H2 rfl ?_
  intro b2 w3 hb2 H3
  refine wV (v_bld ba126 rfl (by repeat constructor)) ?_
  refine wl_box (cs := [.map (some b0), .map (some b1), .map (some b2)]) H3 rfl rfl rfl ?_
  intro bd w4 hbd H4
  refine wA ?_
  refine wl_nil ?_
  refine wc_seq ?_
  refine wcR ?_
  refine wM ?_
  refine wV (v_len Try.underlying45 rfl) ?_
  refine wM ?_
  refine wl_nil ?_
  refine wc_block ?_
  refine wc_loop (σ := Nat × (ByteArray → Option Value)) (fun s => [(0, .slice A l.length cd), (4, .pointer (some ⟨bd, 0, none⟩)), (22, .slice A l.length cd), (23, .int .i64 l.length), (24, .int .i64 s.1)]) (fun s W => (s.1 ≤ l.length ∧ OnceTo l s.1 0 ∧ CRel w0 (upC l s.1 0) s.2) ∧ Holds w0 (Blk bd 126 [.map (some b0), .map (some b1), .map (some b2)] :: Mp KS Value.bool b0 s.1 (metF ((nms l).take s.1)) :: Mp KS VId b1 (upC l s.1 0).length s.2 :: Mp KS Value.string b2 (upC l s.1 0).length (ofF (upC l s.1 0)) :: L) W) (fun s => l.length - s.1) (0, fun _ => none) (sc rfl (sc rfl (sc rfl (sc rfl (sc rfl (sn _)))))) ⟨⟨Nat.zero_le _, OnceTo.start, CRel.nil w0⟩, by rw [metF_nil] at H4; exact H4.pm (by repeat (first | exact pm_refl _ | constructor | refine pm_skip ?_))⟩ ?_
  rintro ⟨i, fC⟩ W0 ⟨⟨hi, hO, hC⟩, H⟩
  dsimp only at hi hO hC H ⊢
  refine wcR ?_
  refine wV (v_lss rfl rfl) ?_
  refine wl_nil ?_
  refine wc_seq ?_
  refine wc_cond rfl (fun c0 => ?_) (fun c0 => ?_)
  rotate_left
  ·have c0p := oF c0
   obtain rfl : i = l.length := by omega
   have hOn := hO.fin (Nat.le_refl _)
   rw [upC_zero, List.take_length] at hC H
   rw [show (nms l).take l.length = nms l from List.take_of_length_le (by rw [nms_len]; exact Nat.le_refl _)] at H
   refine wc_exit ?_
   refine wc_seq ?_
   refine wcR ?_
   refine wM ?_
   refine wV (v_len Try.underlying45 rfl) ?_
   refine wM ?_
   refine wl_nil ?_
   refine wc_block ?_
   refine wc_loop (σ := Nat) (fun s => [(4, .pointer (some ⟨bd, 0, none⟩)), (95, .slice A l.length cd), (96, .int .i64 l.length), (97, .int .i64 s)]) (fun s W => (s ≤ l.length ∧ TypdTo l s 0 0) ∧ Holds w0 (Blk bd 126 [.map (some b0), .map (some b1), .map (some b2)] :: Mp KS Value.bool b0 l.length (metF (nms l)) :: Mp KS VId b1 (flat l).length fC :: Mp KS Value.string b2 (flat l).length (ofF (flat l)) :: L) W) (fun s => l.length - s) 0 (sc rfl (sc rfl (sc rfl (sc rfl (sn _))))) ⟨⟨Nat.zero_le _, TypdTo.start⟩, H.pm (by repeat (first | exact pm_refl _ | constructor | refine pm_skip ?_))⟩ ?_
   rintro i W2 ⟨⟨hi, hT⟩, H⟩
   refine wcR ?_
   refine wV (v_lss rfl rfl) ?_
   refine wl_nil ?_
   refine wc_seq ?_
   refine wc_cond rfl (fun c4 => ?_) (fun c4 => ?_)
   rotate_left
   ·have c4p := oF c4
    refine wc_exit ?_
    refine wcR ?_
    refine wM ?_
    refine wA ?_
    refine wA ?_
    refine wl_nil ?_
    refine wc_ret ?_
    first
      | (have q_ := hT
         have e_ := dataE_t hOn (hT.fin (by omega))
         exact ⟨_, res2 rfl rfl rfl, bd, b0, b1, b2, fC, by rw [e_], H.pm (by repeat (first | exact pm_refl _ | constructor | refine pm_skip ?_)), fun _ => ⟨hC, H.pm (by repeat (first | exact pm_refl _ | constructor | refine pm_skip ?_))⟩⟩)
      | (have q_ := hT
         have e_ := dataE_ty hOn (fun ht => (ht _ (upC_mem hin hjn) _ (getD_mem hqn)).elim (fun h => g117p h) (fun h => of_ndec (of_n_t c7) h))
         exact ⟨_, res2 rfl rfl rfl, bd, b0, b1, b2, fC, by rw [e_], H.pm (by repeat (first | exact pm_refl _ | constructor | refine pm_skip ?_)), fun h => by rw [e_] at h; exact absurd h (by decide)⟩)
      | (have q_ := hjn
         have e_ := dataE_tw (OnceTo.no_ct hin hjn (fun hh => by first | exact of_ndec (of_n_t c3) hh.1 | exact absurd (hq4.symm.trans g71) (by rw [hh.2]; decide)))
         exact ⟨_, res2 rfl rfl rfl, bd, b0, b1, b2, fC, by rw [e_], H.pm (by repeat (first | exact pm_refl _ | constructor | refine pm_skip ?_)), fun h => by rw [e_] at h; exact absurd h (by decide)⟩)
      | (have e_ := dataE_tw (fun ho => by
           have h_ := ho.1 i hin
           first
             | exact of_ndec (g32p) h_.1
             | exact h_.2.1 g37p
             | exact h_.2.2 (by rw [nms_take]; exact of_dec c1))
         exact ⟨_, res2 rfl rfl rfl, bd, b0, b1, b2, fC, by rw [e_], H.pm (by repeat (first | exact pm_refl _ | constructor | refine pm_skip ?_)), fun h => by rw [e_] at h; exact absurd h (by decide)⟩)
   have c4p := oT c4
   have hin : i < l.length := by omega
   have hcl := hl.cl hin
   refine wc_skip ?_
   refine wc_seq ?_
   refine wc_block ?_
   refine wcR ?_
   refine wV (v_idx Try.underlying45 sz83 hr.ad rfl rfl (by omega) (by omega)) ?_
   obtain ⟨R100_, c100_, hc100_, hl100_, hR100_⟩ := hr.atDt (i := i) (by omega)
   refine wV (v_loadN (cs := [.string (l.getD i dt0).name, .slice R100_ (l.getD i dt0).ctors.length c100_]) agg83 rfl rfl (fun q_ u_ hu_ => H.cell (hc100_ q_ u_ hu_))) ?_
   refine wl_alloc (cs := [.string ⟨#[]⟩, .slice none 0 0]) H rfl zv83 rfl ?_
   intro b12 w31 hb12 H32
   refine wl_store (vs := [_, _]) H32 (by repeat constructor) sz83 rfl rfl rfl rfl rfl (by (repeat constructor)) ?_
   intro w33 H34 hw33
   refine wl_nil ?_
   refine wcR ?_
   refine wV (v_fb (o2 := 1) fa83_1 rfl rfl) ?_
   refine wV (v_load one81 rfl (H34.at (by repeat constructor) rfl)) ?_
   refine wV (v_len Try.underlying81 rfl) ?_
   refine wM ?_
   refine wl_nil ?_
   refine wc_block ?_
   refine wc_loop (σ := Nat) (fun s => [(4, .pointer (some ⟨bd, 0, none⟩)), (95, .slice A l.length cd), (96, .int .i64 l.length), (97, .int .i64 i), (102, .slice R100_ (l.getD i dt0).ctors.length c100_), (103, .int .i64 (l.getD i dt0).ctors.length), (104, .int .i64 s)]) (fun s W => (s ≤ (l.getD i dt0).ctors.length ∧ TypdTo l i s 0) ∧ Holds w0 (Blk bd 126 [.map (some b0), .map (some b1), .map (some b2)] :: Mp KS Value.bool b0 l.length (metF (nms l)) :: Mp KS VId b1 (flat l).length fC :: Mp KS Value.string b2 (flat l).length (ofF (flat l)) :: L) W) (fun s => (l.getD i dt0).ctors.length - s) 0 (sc rfl (sc rfl (sc rfl (sc rfl (sc rfl (sc rfl (sc rfl (sn _)))))))) ⟨⟨Nat.zero_le _, hT⟩, H34.pm (by repeat (first | exact pm_refl _ | constructor | refine pm_skip ?_))⟩ ?_
   rintro j W3 ⟨⟨hj, hT⟩, H⟩
   refine wcR ?_
   refine wV (v_lss rfl rfl) ?_
   refine wl_nil ?_
   refine wc_seq ?_
   refine wc_cond rfl (fun c5 => ?_) (fun c5 => ?_)
   rotate_left
   ·have c5p := oF c5
    refine wc_exit ?_
    refine wc_region ?_
    refine wV (v_addi rfl rfl (by omega)) ?_
    refine wM ?_
    refine wl_nil ?_
    exact ⟨i + 1, (sc rfl (sc rfl (sc rfl (sc rfl (sn _))))), ⟨⟨by omega, hT.row hin (by omega)⟩, H.pm (by repeat (first | exact pm_refl _ | constructor | refine pm_skip ?_))⟩, by omega⟩
   have c5p := oT c5
   have hjn : j < (l.getD i dt0).ctors.length := by omega
   have hfl := (hl.up hin hjn).2.1
   refine wc_skip ?_
   refine wc_seq ?_
   refine wc_block ?_
   refine wcR ?_
   refine wV (v_idx Try.underlying81 sz80 hR100_.ad rfl rfl (by omega) (by omega)) ?_
   obtain ⟨R107_, c107_, hc107_, hl107_, hR107_⟩ := hR100_.atCt (i := j) (by omega)
   refine wV (v_loadN (cs := [.string ((l.getD i dt0).ctors.getD j ct0).name, .slice R107_ ((l.getD i dt0).ctors.getD j ct0).fields.length c107_]) agg80 rfl rfl (fun q_ u_ hu_ => H.cell (hc107_ q_ u_ hu_))) ?_
   refine wl_alloc (cs := [.string ⟨#[]⟩, .slice none 0 0]) H rfl zv80 rfl ?_
   intro b14 w35 hb14 H36
   refine wl_store (vs := [_, _]) H36 (by repeat constructor) sz80 rfl rfl rfl rfl rfl (by (repeat constructor)) ?_
   intro w37 H38 hw37
   refine wl_nil ?_
   refine wcR ?_
   refine wV (v_fb (o2 := 1) fa80_1 rfl rfl) ?_
   refine wV (v_load one40 rfl (H38.at (by repeat constructor) rfl)) ?_
   refine wV (v_len Try.underlying40 rfl) ?_
   refine wM ?_
   refine wl_nil ?_
   refine wc_block ?_
   refine wc_loop (σ := Nat) (fun s => [(4, .pointer (some ⟨bd, 0, none⟩)), (95, .slice A l.length cd), (96, .int .i64 l.length), (97, .int .i64 i), (102, .slice R100_ (l.getD i dt0).ctors.length c100_), (103, .int .i64 (l.getD i dt0).ctors.length), (104, .int .i64 j), (109, .slice R107_ ((l.getD i dt0).ctors.getD j ct0).fields.length c107_), (110, .int .i64 ((l.getD i dt0).ctors.getD j ct0).fields.length), (111, .int .i64 s)]) (fun s W => (s ≤ ((l.getD i dt0).ctors.getD j ct0).fields.length ∧ TypdTo l i j s) ∧ Holds w0 (Blk bd 126 [.map (some b0), .map (some b1), .map (some b2)] :: Mp KS Value.bool b0 l.length (metF (nms l)) :: Mp KS VId b1 (flat l).length fC :: Mp KS Value.string b2 (flat l).length (ofF (flat l)) :: L) W) (fun s => ((l.getD i dt0).ctors.getD j ct0).fields.length - s) 0 (sc rfl (sc rfl (sc rfl (sc rfl (sc rfl (sc rfl (sc rfl (sc rfl (sc rfl (sc rfl (sn _))))))))))) ⟨⟨Nat.zero_le _, hT⟩, H38.pm (by repeat (first | exact pm_refl _ | constructor | refine pm_skip ?_))⟩ ?_
   rintro q W4 ⟨⟨hq, hT⟩, H⟩
   refine wcR ?_
   refine wV (v_lss rfl rfl) ?_
   refine wl_nil ?_
   refine wc_seq ?_
   refine wc_cond rfl (fun c6 => ?_) (fun c6 => ?_)
   rotate_left
   ·have c6p := oF c6
    refine wc_exit ?_
    refine wc_region ?_
    refine wV (v_addi rfl rfl (by omega)) ?_
    refine wM ?_
    refine wl_nil ?_
    exact ⟨j + 1, (sc rfl (sc rfl (sc rfl (sc rfl (sc rfl (sc rfl (sc rfl (sn _)))))))), ⟨⟨by omega, hT.ct hjn (by omega)⟩, H.pm (by repeat (first | exact pm_refl _ | constructor | refine pm_skip ?_))⟩, by omega⟩
   have c6p := oT c6
   have hqn : q < ((l.getD i dt0).ctors.getD j ct0).fields.length := by omega
   refine wc_skip ?_
   refine wc_seq ?_
   refine wc_block ?_
   refine wcR ?_
   refine wV (v_idx Try.underlying40 sz9 hR107_.ad rfl rfl (by omega) (by omega)) ?_
   refine wV (v_load one9 rfl (H.cell (hR107_.at1sN (i := q) (by omega)))) ?_
   refine wA ?_
   refine wl_nil ?_
   refine wcR ?_
   refine wM ?_
   refine wV (v_neqs rfl rfl) ?_
   refine wM ?_
   refine wl_guard rfl rfl rfl (fun g117 => ?_) (fun g117 => ?_)
   rotate_left
   ·have g117p := of_nd_f g117
    refine wF g117 ?_
    refine wF g117 ?_
    refine wF g117 ?_
    refine wF g117 ?_
    refine wF g117 ?_
    refine wF g117 ?_
    refine wV (v_pick_f rfl g117 rfl) ?_
    refine wl_nil ?_
    refine wc_cond_f rfl ?_
    refine wc_skip ?_
    refine wc_region ?_
    refine wV (v_addi rfl rfl (by omega)) ?_
    refine wM ?_
    refine wl_nil ?_
    first
      | exact ⟨q + 1, (sc rfl (sc rfl (sc rfl (sc rfl (sc rfl (sc rfl (sc rfl (sc rfl (sc rfl (sc rfl (sn _))))))))))), ⟨⟨by omega, hT.next hqn (.inr (of_dec (of_n_f c7)))⟩, H.pm (by repeat (first | exact pm_refl _ | constructor | refine pm_skip ?_))⟩, by omega⟩
      | exact ⟨q + 1, (sc rfl (sc rfl (sc rfl (sc rfl (sc rfl (sc rfl (sc rfl (sc rfl (sc rfl (sc rfl (sn _))))))))))), ⟨⟨by omega, hT.next hqn (.inl g117p)⟩, H.pm (by repeat (first | exact pm_refl _ | constructor | refine pm_skip ?_))⟩, by omega⟩
   have g117p := of_nd_t g117
   refine wM ?_
   refine wO g117 ?_
   refine wV (v_nil rfl) ?_
   refine wO g117 ?_
   refine wV (v_fb (o2 := 0) fa126_0 rfl rfl) ?_
   refine wO g117 ?_
   refine wV (v_load one122 rfl (H.at (by repeat constructor) rfl)) ?_
   refine wO g117 ?_
   refine wM ?_
   refine wO g117 ?_
   refine wV (v_look' H (by repeat constructor) Try.underlying122 zv4 (show KS.ok (((l.getD i dt0).ctors.getD j ct0).fields.getD q s0) from Nat.le_trans ((hl.up hin hjn).2.2 _ (getD_mem hqn)) (by decide)) rfl rfl (metF_get _ _)) ?_
   refine wO g117 ?_
   refine wV (v_not rfl) ?_
   refine wV (v_pick_t rfl g117 rfl) ?_
   refine wl_nil ?_
   refine wc_cond rfl (fun c7 => ?_) (fun c7 => ?_)
   rotate_left
   ·have c7p := of_n_f c7
    refine wc_skip ?_
    refine wc_region ?_
    refine wV (v_addi rfl rfl (by omega)) ?_
    refine wM ?_
    refine wl_nil ?_
    first
      | exact ⟨q + 1, (sc rfl (sc rfl (sc rfl (sc rfl (sc rfl (sc rfl (sc rfl (sc rfl (sc rfl (sc rfl (sn _))))))))))), ⟨⟨by omega, hT.next hqn (.inr (of_dec (of_n_f c7)))⟩, H.pm (by repeat (first | exact pm_refl _ | constructor | refine pm_skip ?_))⟩, by omega⟩
      | exact ⟨q + 1, (sc rfl (sc rfl (sc rfl (sc rfl (sc rfl (sc rfl (sc rfl (sc rfl (sc rfl (sc rfl (sn _))))))))))), ⟨⟨by omega, hT.next hqn (.inl g117p)⟩, H.pm (by repeat (first | exact pm_refl _ | constructor | refine pm_skip ?_))⟩, by omega⟩
   have c7p := of_n_t c7
   refine wcR ?_
   refine wM ?_
   refine wA ?_
   refine wA ?_
   refine wl_nil ?_
   refine wc_ret ?_
   first
     | (have q_ := hT
        have e_ := dataE_t hOn (hT.fin (by omega))
        exact ⟨_, res2 rfl rfl rfl, bd, b0, b1, b2, fC, by rw [e_], H.pm (by repeat (first | exact pm_refl _ | constructor | refine pm_skip ?_)), fun _ => ⟨hC, H.pm (by repeat (first | exact pm_refl _ | constructor | refine pm_skip ?_))⟩⟩)
     | (have q_ := hT
        have e_ := dataE_ty hOn (fun ht => (ht _ (upC_mem hin hjn) _ (getD_mem hqn)).elim (fun h => g117p h) (fun h => of_ndec (of_n_t c7) h))
        exact ⟨_, res2 rfl rfl rfl, bd, b0, b1, b2, fC, by rw [e_], H.pm (by repeat (first | exact pm_refl _ | constructor | refine pm_skip ?_)), fun h => by rw [e_] at h; exact absurd h (by decide)⟩)
     | (have q_ := hjn
        have e_ := dataE_tw (OnceTo.no_ct hin hjn (fun hh => by first | exact of_ndec (of_n_t c3) hh.1 | exact absurd (hq4.symm.trans g71) (by rw [hh.2]; decide)))
        exact ⟨_, res2 rfl rfl rfl, bd, b0, b1, b2, fC, by rw [e_], H.pm (by repeat (first | exact pm_refl _ | constructor | refine pm_skip ?_)), fun h => by rw [e_] at h; exact absurd h (by decide)⟩)
     | (have e_ := dataE_tw (fun ho => by
          have h_ := ho.1 i hin
          first
            | exact of_ndec (g32p) h_.1
            | exact h_.2.1 g37p
            | exact h_.2.2 (by rw [nms_take]; exact of_dec c1))
        exact ⟨_, res2 rfl rfl rfl, bd, b0, b1, b2, fC, by rw [e_], H.pm (by repeat (first | exact pm_refl _ | constructor | refine pm_skip ?_)), fun h => by rw [e_] at h; exact absurd h (by decide)⟩)
  have c0p := oT c0
  have hin : i < l.length := by omega
  refine wc_skip ?_
  refine wc_seq ?_
  refine wc_block ?_
  refine wcR ?_
  refine wV (v_idx Try.underlying45 sz83 hr.ad rfl rfl (by omega) (by omega)) ?_
  obtain ⟨R27_, c27_, hc27_, hl27_, hR27_⟩ := hr.atDt (i := i) (by omega)
  refine wV (v_loadN (cs := [.string (l.getD i dt0).name, .slice R27_ (l.getD i dt0).ctors.length c27_]) agg83 rfl rfl (fun q_ u_ hu_ => H.cell (hc27_ q_ u_ hu_))) ?_
  refine wl_alloc (cs := [.string ⟨#[]⟩, .slice none 0 0]) H rfl zv83 rfl ?_
  intro b6 w5 hb6 H6
  refine wl_store (vs := [_, _]) H6 (by repeat constructor) sz83 rfl rfl rfl rfl rfl (by (repeat constructor)) ?_
  intro w7 H8 hw7
  refine wl_nil ?_
  refine wc_seq ?_
  refine wc_seq ?_
  refine wc_tree [0, 1, 3, 4, 5, 6, 7, 8, 9, 10, 11, 12, 13, 14, 15, 16, 17] (fun W => Holds w0 (Blk b6 83 [.string (l.getD i dt0).name, .slice R27_ (l.getD i dt0).ctors.length c27_] :: Blk bd 126 [.map (some b0), .map (some b1), .map (some b2)] :: Mp KS Value.bool b0 i (metF ((nms l).take i)) :: Mp KS VId b1 (upC l i 0).length fC :: Mp KS Value.string b2 (upC l i 0).length (ofF (upC l i 0)) :: L) W) mixed ?_
  have Hd := H8.drew
  have HSd : Holds w0 (Blk b6 83 [.string (l.getD i dt0).name, .slice R27_ (l.getD i dt0).ctors.length c27_] :: Blk bd 126 [.map (some b0), .map (some b1), .map (some b2)] :: Mp KS Value.bool b0 i (metF ((nms l).take i)) :: Mp KS VId b1 (upC l i 0).length fC :: Mp KS Value.string b2 (upC l i 0).length (ofF (upC l i 0)) :: L) _ := Hd.pm (by repeat (first | exact pm_refl _ | constructor | refine pm_skip ?_))
  refine wjV (k := 0) rfl HSd (fun W HW => v_fb (o2 := 0) fa83_0 rfl rfl) ?_
  refine wjV (k := 1) rfl HSd (fun W HW => v_load one9 rfl (HW.at (by repeat constructor) rfl)) ?_
  refine wj_t (k := 2) rfl (by kernel_rfl) ?_
  refine wl_call en55 rfl rfl (word_calls (hl.nm hin)) ?_
  rintro _ w9 ⟨rfl, Hc⟩
  have H10 := Hd.call0 Hc
  have HS11 : Holds w0 (Blk b6 83 [.string (l.getD i dt0).name, .slice R27_ (l.getD i dt0).ctors.length c27_] :: Blk bd 126 [.map (some b0), .map (some b1), .map (some b2)] :: Mp KS Value.bool b0 i (metF ((nms l).take i)) :: Mp KS VId b1 (upC l i 0).length fC :: Mp KS Value.string b2 (upC l i 0).length (ofF (upC l i 0)) :: L) _ := H10.pm (by repeat (first | exact pm_refl _ | constructor | refine pm_skip ?_))
  refine wl_nil (tn ⟨fun _ => HS11, ?_⟩)
  refine wjV (k := 3) rfl HS11 (fun W HW => v_not rfl) ?_
  refine wjV (k := 4) rfl HS11 (fun W HW => v_move rfl) ?_
  refine wj_guard (dj := 32) rfl (fun g32 => ?_) (fun g32 => ?_)
  ·have g32p := of_n_t g32
   refine wj_off (k := 5) rfl (by kernel_rfl) (fun _ _ _ h => h) rfl rfl g32 HS11 rfl ?_
   refine wj_off (k := 6) rfl (by kernel_rfl) (fun _ _ _ h => h) rfl rfl g32 HS11 rfl ?_
   refine wj_off (k := 7) rfl (by kernel_rfl) (fun _ _ _ h => h) rfl rfl g32 HS11 rfl ?_
   refine wjV (k := 8) rfl HS11 (fun W HW => v_pick_t rfl g32 rfl) ?_
   refine wjV (k := 9) rfl HS11 (fun W HW => v_move rfl) ?_
   refine wj_off (k := 10) rfl (by kernel_rfl) (fun _ _ _ h => h) rfl rfl rfl HS11 rfl ?_
   refine wj_off (k := 11) rfl (by kernel_rfl) (fun _ _ _ h => h) rfl rfl rfl HS11 rfl ?_
   refine wj_off (k := 12) rfl (by kernel_rfl) (fun _ _ _ h => h) rfl rfl rfl HS11 rfl ?_
   refine wj_off (k := 13) rfl (by kernel_rfl) (fun _ _ _ h => h) rfl rfl rfl HS11 rfl ?_
   refine wj_off (k := 14) rfl (by kernel_rfl) (fun _ _ _ h => h) rfl rfl rfl HS11 rfl ?_
   refine wj_off (k := 15) rfl (by kernel_rfl) (fun _ _ _ h => h) rfl rfl rfl HS11 rfl ?_
   refine wj_off (k := 16) rfl (by kernel_rfl) (fun _ _ _ h => h) rfl rfl rfl HS11 rfl ?_
   refine wjV (k := 17) rfl HS11 (fun W HW => v_pick_t rfl rfl rfl) ?_
   refine wj_done (by kernel_rfl) ?_
   refine wc_cond_t rfl ?_
   refine wcR ?_
   refine wM ?_
   refine wA ?_
   refine wA ?_
   refine wl_nil ?_
   refine wc_ret ?_
   first
     | (have q_ := hT
        have e_ := dataE_t hOn (hT.fin (by omega))
        exact ⟨_, res2 rfl rfl rfl, bd, b0, b1, b2, fC, by rw [e_], H10.pm (by repeat (first | exact pm_refl _ | constructor | refine pm_skip ?_)), fun _ => ⟨hC, H10.pm (by repeat (first | exact pm_refl _ | constructor | refine pm_skip ?_))⟩⟩)
     | (have q_ := hT
        have e_ := dataE_ty hOn (fun ht => (ht _ (upC_mem hin hjn) _ (getD_mem hqn)).elim (fun h => g117p h) (fun h => of_ndec (of_n_t c7) h))
        exact ⟨_, res2 rfl rfl rfl, bd, b0, b1, b2, fC, by rw [e_], H10.pm (by repeat (first | exact pm_refl _ | constructor | refine pm_skip ?_)), fun h => by rw [e_] at h; exact absurd h (by decide)⟩)
     | (have q_ := hjn
        have e_ := dataE_tw (OnceTo.no_ct hin hjn (fun hh => by first | exact of_ndec (of_n_t c3) hh.1 | exact absurd (hq4.symm.trans g71) (by rw [hh.2]; decide)))
        exact ⟨_, res2 rfl rfl rfl, bd, b0, b1, b2, fC, by rw [e_], H10.pm (by repeat (first | exact pm_refl _ | constructor | refine pm_skip ?_)), fun h => by rw [e_] at h; exact absurd h (by decide)⟩)
     | (have e_ := dataE_tw (fun ho => by
          have h_ := ho.1 i hin
          first
            | exact of_ndec (g32p) h_.1
            | exact h_.2.1 g37p
            | exact h_.2.2 (by rw [nms_take]; exact of_dec c1))
        exact ⟨_, res2 rfl rfl rfl, bd, b0, b1, b2, fC, by rw [e_], H10.pm (by repeat (first | exact pm_refl _ | constructor | refine pm_skip ?_)), fun h => by rw [e_] at h; exact absurd h (by decide)⟩)
  have g32p := of_n_f g32
  refine wj_vg (k := 5) rfl (by kernel_rfl) (fun _ _ _ h => h) rfl rfl g32 HS11 rfl (fun W HW => v_fb (o2 := 0) fa83_0 rfl rfl) ?_
  refine wj_vg (k := 6) rfl (by kernel_rfl) (fun _ _ _ h => h) rfl rfl g32 HS11 rfl (fun W HW => v_load one9 rfl (HW.at (by repeat constructor) rfl)) ?_
  refine wj_vg (k := 7) rfl (by kernel_rfl) (fun _ _ _ h => h) rfl rfl g32 HS11 rfl (fun W HW => v_eqls rfl rfl) ?_
  refine wjV (k := 8) rfl HS11 (fun W HW => v_pick_f rfl g32 rfl) ?_
  refine wjV (k := 9) rfl HS11 (fun W HW => v_move rfl) ?_
  refine wj_guard (dj := 37) rfl (fun g37 => ?_) (fun g37 => ?_)
  ·have g37p := oT g37
   refine wj_off (k := 10) rfl (by kernel_rfl) (fun _ _ _ h => h) rfl rfl g37 HS11 rfl ?_
   refine wj_off (k := 11) rfl (by kernel_rfl) (fun _ _ _ h => h) rfl rfl g37 HS11 rfl ?_
   refine wj_off (k := 12) rfl (by kernel_rfl) (fun _ _ _ h => h) rfl rfl g37 HS11 rfl ?_
   refine wj_off (k := 13) rfl (by kernel_rfl) (fun _ _ _ h => h) rfl rfl g37 HS11 rfl ?_
   refine wj_off (k := 14) rfl (by kernel_rfl) (fun _ _ _ h => h) rfl rfl g37 HS11 rfl ?_
   refine wj_off (k := 15) rfl (by kernel_rfl) (fun _ _ _ h => h) rfl rfl g37 HS11 rfl ?_
   refine wj_off (k := 16) rfl (by kernel_rfl) (fun _ _ _ h => h) rfl rfl g37 HS11 rfl ?_
   refine wjV (k := 17) rfl HS11 (fun W HW => v_pick_t rfl g37 rfl) ?_
   refine wj_done (by kernel_rfl) ?_
   refine wc_cond_t rfl ?_
   refine wcR ?_
   refine wM ?_
   refine wA ?_
   refine wA ?_
   refine wl_nil ?_
   refine wc_ret ?_
   first
     | (have q_ := hT
        have e_ := dataE_t hOn (hT.fin (by omega))
        exact ⟨_, res2 rfl rfl rfl, bd, b0, b1, b2, fC, by rw [e_], H10.pm (by repeat (first | exact pm_refl _ | constructor | refine pm_skip ?_)), fun _ => ⟨hC, H10.pm (by repeat (first | exact pm_refl _ | constructor | refine pm_skip ?_))⟩⟩)
     | (have q_ := hT
        have e_ := dataE_ty hOn (fun ht => (ht _ (upC_mem hin hjn) _ (getD_mem hqn)).elim (fun h => g117p h) (fun h => of_ndec (of_n_t c7) h))
        exact ⟨_, res2 rfl rfl rfl, bd, b0, b1, b2, fC, by rw [e_], H10.pm (by repeat (first | exact pm_refl _ | constructor | refine pm_skip ?_)), fun h => by rw [e_] at h; exact absurd h (by decide)⟩)
     | (have q_ := hjn
        have e_ := dataE_tw (OnceTo.no_ct hin hjn (fun hh => by first | exact of_ndec (of_n_t c3) hh.1 | exact absurd (hq4.symm.trans g71) (by rw [hh.2]; decide)))
        exact ⟨_, res2 rfl rfl rfl, bd, b0, b1, b2, fC, by rw [e_], H10.pm (by repeat (first | exact pm_refl _ | constructor | refine pm_skip ?_)), fun h => by rw [e_] at h; exact absurd h (by decide)⟩)
     | (have e_ := dataE_tw (fun ho => by
          have h_ := ho.1 i hin
          first
            | exact of_ndec (g32p) h_.1
            | exact h_.2.1 g37p
            | exact h_.2.2 (by rw [nms_take]; exact of_dec c1))
        exact ⟨_, res2 rfl rfl rfl, bd, b0, b1, b2, fC, by rw [e_], H10.pm (by repeat (first | exact pm_refl _ | constructor | refine pm_skip ?_)), fun h => by rw [e_] at h; exact absurd h (by decide)⟩)
  have g37p := oF g37
  refine wj_vg (k := 10) rfl (by kernel_rfl) (fun _ _ _ h => h) rfl rfl g37 HS11 rfl (fun W HW => v_move rfl) ?_
  refine wj_vg (k := 11) rfl (by kernel_rfl) (fun _ _ _ h => h) rfl rfl g37 HS11 rfl (fun W HW => v_nil rfl) ?_
  refine wj_vg (k := 12) rfl (by kernel_rfl) (fun _ _ _ h => h) rfl rfl g37 HS11 rfl (fun W HW => v_fb (o2 := 0) fa126_0 rfl rfl) ?_
  refine wj_vg (k := 13) rfl (by kernel_rfl) (fun _ _ _ h => h) rfl rfl g37 HS11 rfl (fun W HW => v_load one122 rfl (HW.at (by repeat constructor) rfl)) ?_
  refine wj_vg (k := 14) rfl (by kernel_rfl) (fun _ _ _ h => h) rfl rfl g37 HS11 rfl (fun W HW => v_fb (o2 := 0) fa83_0 rfl rfl) ?_
  refine wj_vg (k := 15) rfl (by kernel_rfl) (fun _ _ _ h => h) rfl rfl g37 HS11 rfl (fun W HW => v_load one9 rfl (HW.at (by repeat constructor) rfl)) ?_
  refine wj_vg (k := 16) rfl (by kernel_rfl) (fun _ _ _ h => h) rfl rfl g37 HS11 rfl (fun W HW => v_look' HW (by repeat constructor) Try.underlying122 zv4 (show KS.ok (l.getD i dt0).name from Nat.le_trans (hl.nm hin) (by decide)) rfl rfl (metF_get _ _)) ?_
  refine wjV (k := 17) rfl HS11 (fun W HW => v_pick_f rfl g37 rfl) ?_
  refine wj_done (by kernel_rfl) ?_
  refine wc_cond rfl (fun c1 => ?_) (fun c1 => ?_)
  ·refine wcR ?_
   refine wM ?_
   refine wA ?_
   refine wA ?_
   refine wl_nil ?_
   refine wc_ret ?_
   first
     | (have q_ := hT
        have e_ := dataE_t hOn (hT.fin (by omega))
        exact ⟨_, res2 rfl rfl rfl, bd, b0, b1, b2, fC, by rw [e_], H10.pm (by repeat (first | exact pm_refl _ | constructor | refine pm_skip ?_)), fun _ => ⟨hC, H10.pm (by repeat (first | exact pm_refl _ | constructor | refine pm_skip ?_))⟩⟩)
     | (have q_ := hT
        have e_ := dataE_ty hOn (fun ht => (ht _ (upC_mem hin hjn) _ (getD_mem hqn)).elim (fun h => g117p h) (fun h => of_ndec (of_n_t c7) h))
        exact ⟨_, res2 rfl rfl rfl, bd, b0, b1, b2, fC, by rw [e_], H10.pm (by repeat (first | exact pm_refl _ | constructor | refine pm_skip ?_)), fun h => by rw [e_] at h; exact absurd h (by decide)⟩)
     | (have q_ := hjn
        have e_ := dataE_tw (OnceTo.no_ct hin hjn (fun hh => by first | exact of_ndec (of_n_t c3) hh.1 | exact absurd (hq4.symm.trans g71) (by rw [hh.2]; decide)))
        exact ⟨_, res2 rfl rfl rfl, bd, b0, b1, b2, fC, by rw [e_], H10.pm (by repeat (first | exact pm_refl _ | constructor | refine pm_skip ?_)), fun h => by rw [e_] at h; exact absurd h (by decide)⟩)
     | (have e_ := dataE_tw (fun ho => by
          have h_ := ho.1 i hin
          first
            | exact of_ndec (g32p) h_.1
            | exact h_.2.1 g37p
            | exact h_.2.2 (by rw [nms_take]; exact of_dec c1))
        exact ⟨_, res2 rfl rfl rfl, bd, b0, b1, b2, fC, by rw [e_], H10.pm (by repeat (first | exact pm_refl _ | constructor | refine pm_skip ?_)), fun h => by rw [e_] at h; exact absurd h (by decide)⟩)
  have hdt : dtOk l i := ⟨of_dec g32p, g37p, by rw [nms_take]; exact of_ndec c1⟩
  have hcl := hl.cl hin
  refine wc_skip ?_
  refine wc_seq ?_
  refine wc_tree [0, 1, 2, 3, 4, 5] (fun W => Holds w0 (Blk b6 83 [.string (l.getD i dt0).name, .slice R27_ (l.getD i dt0).ctors.length c27_] :: Blk bd 126 [.map (some b0), .map (some b1), .map (some b2)] :: L) W) mixed ?_
  have Hd := H10.drew
  have HSd : Holds w0 (Blk b6 83 [.string (l.getD i dt0).name, .slice R27_ (l.getD i dt0).ctors.length c27_] :: Blk bd 126 [.map (some b0), .map (some b1), .map (some b2)] :: L) _ := Hd.pm (by repeat (first | exact pm_refl _ | constructor | refine pm_skip ?_))
  refine wjV (k := 0) rfl HSd (fun W HW => v_move rfl) ?_
  refine wjV (k := 1) rfl HSd (fun W HW => v_nil rfl) ?_
  refine wjV (k := 2) rfl HSd (fun W HW => v_fb (o2 := 0) fa126_0 rfl rfl) ?_
  refine wjV (k := 3) rfl HSd (fun W HW => v_load one122 rfl (HW.at (by repeat constructor) rfl)) ?_
  refine wjV (k := 4) rfl HSd (fun W HW => v_fb (o2 := 0) fa83_0 rfl rfl) ?_
  refine wjV (k := 5) rfl HSd (fun W HW => v_load one9 rfl (HW.at (by repeat constructor) rfl)) ?_
  refine wj_t (k := 6) rfl (by kernel_rfl) ?_
  refine wl_mapset (Kk := KS) (enc := Value.bool) (b := b0) (kx := (l.getD i dt0).name) (vx := true) Hd (by repeat constructor) Try.underlying122 (show KS.ok (l.getD i dt0).name from Nat.le_trans (hl.nm hin) (by decide)) (by unfold maxLen; omega) rfl rfl rfl ?_
  intro w12 H12
  refine wl_nil (tn ⟨fun hlt => absurd hlt (by rw [show allH _ _ _ = true by kernel_rfl]; simp), ?_⟩)
  refine wj_done (by kernel_rfl) ?_
  refine wcR ?_
  refine wV (v_fb (o2 := 1) fa83_1 rfl rfl) ?_
  refine wV (v_load one81 rfl (H12.at (by repeat constructor) rfl)) ?_
  refine wV (v_len Try.underlying81 rfl) ?_
  refine wM ?_
  refine wl_nil ?_
  refine wc_block ?_
  refine wc_loop (σ := Nat × (ByteArray → Option Value)) (fun s => [(0, .slice A l.length cd), (4, .pointer (some ⟨bd, 0, none⟩)), (6, .pointer (some ⟨b6, 0, none⟩)), (22, .slice A l.length cd), (23, .int .i64 l.length), (24, .int .i64 i), (54, .slice R27_ (l.getD i dt0).ctors.length c27_), (55, .int .i64 (l.getD i dt0).ctors.length), (56, .int .i64 s.1)]) (fun s W => (s.1 ≤ (l.getD i dt0).ctors.length ∧ OnceTo l i s.1 ∧ CRel w0 (upC l i s.1) s.2) ∧ Holds w0 (Blk b6 83 [.string (l.getD i dt0).name, .slice R27_ (l.getD i dt0).ctors.length c27_] :: Blk bd 126 [.map (some b0), .map (some b1), .map (some b2)] :: Mp KS Value.bool b0 (i + 1) (metF ((nms l).take (i + 1))) :: Mp KS VId b1 (upC l i s.1).length s.2 :: Mp KS Value.string b2 (upC l i s.1).length (ofF (upC l i s.1)) :: L) W) (fun s => (l.getD i dt0).ctors.length - s.1) (0, fC) (sc rfl (sc rfl (sc rfl (sc rfl (sc rfl (sc rfl (sc rfl (sc rfl (sc rfl (sn _)))))))))) ⟨⟨Nat.zero_le _, hO, hC⟩, by rw [metF_nms hin] at H12; exact H12.pm (by repeat (first | exact pm_refl _ | constructor | refine pm_skip ?_))⟩ ?_
  rintro ⟨j, fC⟩ W1 ⟨⟨hj, hO, hC⟩, H⟩
  dsimp only at hj hO hC H ⊢
  refine wcR ?_
  refine wV (v_lss rfl rfl) ?_
  refine wl_nil ?_
  refine wc_seq ?_
  refine wc_cond rfl (fun c2 => ?_) (fun c2 => ?_)
  rotate_left
  ·have c2p := oF c2
   refine wc_exit ?_
   refine wc_region ?_
   refine wV (v_addi rfl rfl (by omega)) ?_
   refine wM ?_
   refine wl_nil ?_
   have hup := upC_next (l := l) (i := i) (j := j) hin (by omega)
   exact ⟨(i + 1, fC), (sc rfl (sc rfl (sc rfl (sc rfl (sc rfl (sn _)))))), ⟨⟨by dsimp only; omega, hO.row hin (by omega) hdt, by dsimp only; rw [hup]; exact hC⟩, by dsimp only; rw [hup]; exact H.pm (by repeat (first | exact pm_refl _ | constructor | refine pm_skip ?_))⟩, by dsimp only; omega⟩
  have c2p := oT c2
  have hjn : j < (l.getD i dt0).ctors.length := by omega
  refine wc_skip ?_
  refine wc_seq ?_
  refine wc_block ?_
  refine wcR ?_
  refine wV (v_idx Try.underlying81 sz80 hR27_.ad rfl rfl (by omega) (by omega)) ?_
  obtain ⟨R59_, c59_, hc59_, hl59_, hR59_⟩ := hR27_.atCt (i := j) (by omega)
  refine wV (v_loadN (cs := [.string ((l.getD i dt0).ctors.getD j ct0).name, .slice R59_ ((l.getD i dt0).ctors.getD j ct0).fields.length c59_]) agg80 rfl rfl (fun q_ u_ hu_ => H.cell (hc59_ q_ u_ hu_))) ?_
  refine wl_alloc (cs := [.string ⟨#[]⟩, .slice none 0 0]) H rfl zv80 rfl ?_
  intro b8 w14 hb8 H15
  refine wl_store (vs := [_, _]) H15 (by repeat constructor) sz80 rfl rfl rfl rfl rfl (by (repeat constructor)) ?_
  intro w16 H17 hw16
  refine wl_nil ?_
  refine wc_seq ?_
  refine wc_seq ?_
  refine wc_tree [0, 1, 2, 3, 4, 5, 6, 7, 8, 9] (fun W => Holds w0 (Blk b8 80 [.string ((l.getD i dt0).ctors.getD j ct0).name, .slice R59_ ((l.getD i dt0).ctors.getD j ct0).fields.length c59_] :: Blk b6 83 [.string (l.getD i dt0).name, .slice R27_ (l.getD i dt0).ctors.length c27_] :: Blk bd 126 [.map (some b0), .map (some b1), .map (some b2)] :: Mp KS Value.bool b0 (i + 1) (metF ((nms l).take (i + 1))) :: Mp KS VId b1 (upC l i j).length fC :: Mp KS Value.string b2 (upC l i j).length (ofF (upC l i j)) :: L) W) mixed ?_
  have Hd := H17.drew
  have HSd : Holds w0 (Blk b8 80 [.string ((l.getD i dt0).ctors.getD j ct0).name, .slice R59_ ((l.getD i dt0).ctors.getD j ct0).fields.length c59_] :: Blk b6 83 [.string (l.getD i dt0).name, .slice R27_ (l.getD i dt0).ctors.length c27_] :: Blk bd 126 [.map (some b0), .map (some b1), .map (some b2)] :: Mp KS Value.bool b0 (i + 1) (metF ((nms l).take (i + 1))) :: Mp KS VId b1 (upC l i j).length fC :: Mp KS Value.string b2 (upC l i j).length (ofF (upC l i j)) :: L) _ := Hd.pm (by repeat (first | exact pm_refl _ | constructor | refine pm_skip ?_))
  refine wjV (k := 0) rfl HSd (fun W HW => v_move rfl) ?_
  refine wjV (k := 1) rfl HSd (fun W HW => v_nil rfl) ?_
  refine wjV (k := 2) rfl HSd (fun W HW => v_fb (o2 := 1) fa126_1 rfl rfl) ?_
  refine wjV (k := 3) rfl HSd (fun W HW => v_load one123 rfl (HW.at (by repeat constructor) rfl)) ?_
  refine wjV (k := 4) rfl HSd (fun W HW => v_fb (o2 := 0) fa80_0 rfl rfl) ?_
  refine wjV (k := 5) rfl HSd (fun W HW => v_load one9 rfl (HW.at (by repeat constructor) rfl)) ?_
  obtain ⟨q9, A9, k9, hq1, hq2, hq3, hq4, hq5⟩ := hC.look ((l.getD i dt0).ctors.getD j ct0).name
  refine wjV (k := 6) rfl HSd (fun W HW => v_look_okE HW (by repeat constructor) Try.underlying123 zv80 (show KS.ok ((l.getD i dt0).ctors.getD j ct0).name from Nat.le_trans (hl.up hin hjn).1 (by decide)) rfl rfl hq1) ?_
  refine wjV (k := 7) rfl HSd (fun W HW => v_move rfl) ?_
  refine wjV (k := 8) rfl HSd (fun W HW => v_extract rfl rfl) ?_
  refine wjV (k := 9) rfl HSd (fun W HW => v_extract rfl rfl) ?_
  refine wj_t (k := 10) rfl (by kernel_rfl) ?_
  refine wl_alloc (cs := [.string ⟨#[]⟩, .slice none 0 0]) Hd rfl zv80 rfl ?_
  intro b9 w18 hb9 H19
  have HS20 : Holds w0 (Blk b8 80 [.string ((l.getD i dt0).ctors.getD j ct0).name, .slice R59_ ((l.getD i dt0).ctors.getD j ct0).fields.length c59_] :: Blk b6 83 [.string (l.getD i dt0).name, .slice R27_ (l.getD i dt0).ctors.length c27_] :: Blk bd 126 [.map (some b0), .map (some b1), .map (some b2)] :: Mp KS Value.bool b0 (i + 1) (metF ((nms l).take (i + 1))) :: Mp KS VId b1 (upC l i j).length fC :: Mp KS Value.string b2 (upC l i j).length (ofF (upC l i j)) :: L) _ := H19.pm (by repeat (first | exact pm_refl _ | constructor | refine pm_skip ?_))
  refine wl_nil (tn ⟨fun _ => HS20, ?_⟩)
  refine wj_t (k := 11) rfl (by kernel_rfl) ?_
  refine wl_store (vs := [_, _]) H19 (by repeat constructor) sz80 rfl rfl rfl rfl rfl (by (repeat constructor)) ?_
  intro w21 H22 hw21
  have HS23 : Holds w0 (Blk b8 80 [.string ((l.getD i dt0).ctors.getD j ct0).name, .slice R59_ ((l.getD i dt0).ctors.getD j ct0).fields.length c59_] :: Blk b6 83 [.string (l.getD i dt0).name, .slice R27_ (l.getD i dt0).ctors.length c27_] :: Blk bd 126 [.map (some b0), .map (some b1), .map (some b2)] :: Mp KS Value.bool b0 (i + 1) (metF ((nms l).take (i + 1))) :: Mp KS VId b1 (upC l i j).length fC :: Mp KS Value.string b2 (upC l i j).length (ofF (upC l i j)) :: L) _ := H22.pm (by repeat (first | exact pm_refl _ | constructor | refine pm_skip ?_))
  refine wl_nil (tn ⟨fun _ => HS23, ?_⟩)
  refine wj_t (k := 12) rfl (by kernel_rfl) ?_
  refine wA ?_
  refine wl_nil (tn ⟨fun hlt => absurd hlt (by rw [show allH _ _ _ = true by kernel_rfl]; simp), ?_⟩)
  refine wj_done (by kernel_rfl) ?_
  refine wcR ?_
  refine wM ?_
  refine wM ?_
  refine wl_guard rfl rfl rfl (fun g71 => ?_) (fun g71 => ?_)
  rotate_left
  ·refine wF g71 ?_
   refine wF g71 ?_
   refine wF g71 ?_
   refine wV (v_pick_t rfl g71 rfl) ?_
   refine wl_nil ?_
   refine wc_cond_t rfl ?_
   refine wcR ?_
   refine wM ?_
   refine wA ?_
   refine wA ?_
   refine wl_nil ?_
   refine wc_ret ?_
   first
     | (have q_ := hT
        have e_ := dataE_t hOn (hT.fin (by omega))
        exact ⟨_, res2 rfl rfl rfl, bd, b0, b1, b2, fC, by rw [e_], H22.pm (by repeat (first | exact pm_refl _ | constructor | refine pm_skip ?_)), fun _ => ⟨hC, H22.pm (by repeat (first | exact pm_refl _ | constructor | refine pm_skip ?_))⟩⟩)
     | (have q_ := hT
        have e_ := dataE_ty hOn (fun ht => (ht _ (upC_mem hin hjn) _ (getD_mem hqn)).elim (fun h => g117p h) (fun h => of_ndec (of_n_t c7) h))
        exact ⟨_, res2 rfl rfl rfl, bd, b0, b1, b2, fC, by rw [e_], H22.pm (by repeat (first | exact pm_refl _ | constructor | refine pm_skip ?_)), fun h => by rw [e_] at h; exact absurd h (by decide)⟩)
     | (have q_ := hjn
        have e_ := dataE_tw (OnceTo.no_ct hin hjn (fun hh => by first | exact of_ndec (of_n_t c3) hh.1 | exact absurd (hq4.symm.trans g71) (by rw [hh.2]; decide)))
        exact ⟨_, res2 rfl rfl rfl, bd, b0, b1, b2, fC, by rw [e_], H22.pm (by repeat (first | exact pm_refl _ | constructor | refine pm_skip ?_)), fun h => by rw [e_] at h; exact absurd h (by decide)⟩)
     | (have e_ := dataE_tw (fun ho => by
          have h_ := ho.1 i hin
          first
            | exact of_ndec (g32p) h_.1
            | exact h_.2.1 g37p
            | exact h_.2.2 (by rw [nms_take]; exact of_dec c1))
        exact ⟨_, res2 rfl rfl rfl, bd, b0, b1, b2, fC, by rw [e_], H22.pm (by repeat (first | exact pm_refl _ | constructor | refine pm_skip ?_)), fun h => by rw [e_] at h; exact absurd h (by decide)⟩)
  refine wV (v_fb (o2 := 0) fa80_0 rfl rfl) ?_
  refine wO g71 ?_
  refine wV (v_load one9 rfl (H22.at (by repeat constructor) rfl)) ?_
  refine wO g71 ?_
  refine wl_call en55 rfl rfl (word_calls (hl.up hin hjn).1) ?_
  rintro _ w25 ⟨rfl, Hc⟩
  have H26 := H22.call0 Hc
  refine wO g71 ?_
  refine wV (v_not rfl) ?_
  refine wV (v_pick_f rfl g71 rfl) ?_
  refine wl_nil ?_
  refine wc_cond rfl (fun c3 => ?_) (fun c3 => ?_)
  ·have c3p := of_n_t c3
   refine wcR ?_
   refine wM ?_
   refine wA ?_
   refine wA ?_
   refine wl_nil ?_
   refine wc_ret ?_
   first
     | (have q_ := hT
        have e_ := dataE_t hOn (hT.fin (by omega))
        exact ⟨_, res2 rfl rfl rfl, bd, b0, b1, b2, fC, by rw [e_], H26.pm (by repeat (first | exact pm_refl _ | constructor | refine pm_skip ?_)), fun _ => ⟨hC, H26.pm (by repeat (first | exact pm_refl _ | constructor | refine pm_skip ?_))⟩⟩)
     | (have q_ := hT
        have e_ := dataE_ty hOn (fun ht => (ht _ (upC_mem hin hjn) _ (getD_mem hqn)).elim (fun h => g117p h) (fun h => of_ndec (of_n_t c7) h))
        exact ⟨_, res2 rfl rfl rfl, bd, b0, b1, b2, fC, by rw [e_], H26.pm (by repeat (first | exact pm_refl _ | constructor | refine pm_skip ?_)), fun h => by rw [e_] at h; exact absurd h (by decide)⟩)
     | (have q_ := hjn
        have e_ := dataE_tw (OnceTo.no_ct hin hjn (fun hh => by first | exact of_ndec (of_n_t c3) hh.1 | exact absurd (hq4.symm.trans g71) (by rw [hh.2]; decide)))
        exact ⟨_, res2 rfl rfl rfl, bd, b0, b1, b2, fC, by rw [e_], H26.pm (by repeat (first | exact pm_refl _ | constructor | refine pm_skip ?_)), fun h => by rw [e_] at h; exact absurd h (by decide)⟩)
     | (have e_ := dataE_tw (fun ho => by
          have h_ := ho.1 i hin
          first
            | exact of_ndec (g32p) h_.1
            | exact h_.2.1 g37p
            | exact h_.2.2 (by rw [nms_take]; exact of_dec c1))
        exact ⟨_, res2 rfl rfl rfl, bd, b0, b1, b2, fC, by rw [e_], H26.pm (by repeat (first | exact pm_refl _ | constructor | refine pm_skip ?_)), fun h => by rw [e_] at h; exact absurd h (by decide)⟩)
  have c3p := of_n_f c3
  have hcn1 := of_dec (of_n_f c3)
  have hcn2 := opt_none (hq4.symm.trans g71)
  have hul := upC_len (l := l) (i := i) (j := j) hin
  refine wc_skip ?_
  refine wc_seq ?_
  refine wc_tree [0, 1, 2, 3, 4, 5, 6] (fun W => Holds w0 (Blk b8 80 [.string ((l.getD i dt0).ctors.getD j ct0).name, .slice R59_ ((l.getD i dt0).ctors.getD j ct0).fields.length c59_] :: Blk b6 83 [.string (l.getD i dt0).name, .slice R27_ (l.getD i dt0).ctors.length c27_] :: Blk bd 126 [.map (some b0), .map (some b1), .map (some b2)] :: L) W) mixed ?_
  have Hd := H26.drew
  have HSd : Holds w0 (Blk b8 80 [.string ((l.getD i dt0).ctors.getD j ct0).name, .slice R59_ ((l.getD i dt0).ctors.getD j ct0).fields.length c59_] :: Blk b6 83 [.string (l.getD i dt0).name, .slice R27_ (l.getD i dt0).ctors.length c27_] :: Blk bd 126 [.map (some b0), .map (some b1), .map (some b2)] :: L) _ := Hd.pm (by repeat (first | exact pm_refl _ | constructor | refine pm_skip ?_))
  refine wjV (k := 0) rfl HSd (fun W HW => v_move rfl) ?_
  refine wjV (k := 1) rfl HSd (fun W HW => v_nil rfl) ?_
  refine wjV (k := 2) rfl HSd (fun W HW => v_fb (o2 := 1) fa126_1 rfl rfl) ?_
  refine wjV (k := 3) rfl HSd (fun W HW => v_load one123 rfl (HW.at (by repeat constructor) rfl)) ?_
  refine wjV (k := 4) rfl HSd (fun W HW => v_fb (o2 := 0) fa80_0 rfl rfl) ?_
  refine wjV (k := 5) rfl HSd (fun W HW => v_load one9 rfl (HW.at (by repeat constructor) rfl)) ?_
  refine wjV (k := 6) rfl HSd (fun W HW => v_loadN agg80 rfl rfl (HW.ats (by repeat constructor))) ?_
  refine wj_t (k := 7) rfl (by kernel_rfl) ?_
  refine wl_mapset (Kk := KS) (enc := VId) (b := b1) (kx := ((l.getD i dt0).ctors.getD j ct0).name) (vx := .agg #[.string ((l.getD i dt0).ctors.getD j ct0).name, .slice R59_ ((l.getD i dt0).ctors.getD j ct0).fields.length c59_]) Hd (by repeat constructor) Try.underlying123 (show KS.ok ((l.getD i dt0).ctors.getD j ct0).name from Nat.le_trans (hl.up hin hjn).1 (by decide)) (by unfold maxLen; omega) rfl rfl rfl ?_
  intro w27 H27
  refine wl_nil (tn ⟨fun hlt => absurd hlt (by rw [show allH _ _ _ = true by kernel_rfl]; simp), ?_⟩)
  refine wj_done (by kernel_rfl) ?_
  refine wc_tree [0, 1, 2, 3, 4, 5, 6, 7] (fun W => Holds w0 (Blk b8 80 [.string ((l.getD i dt0).ctors.getD j ct0).name, .slice R59_ ((l.getD i dt0).ctors.getD j ct0).fields.length c59_] :: Blk b6 83 [.string (l.getD i dt0).name, .slice R27_ (l.getD i dt0).ctors.length c27_] :: Blk bd 126 [.map (some b0), .map (some b1), .map (some b2)] :: L) W) mixed ?_
  have Hd := H27.drew
  have HSd : Holds w0 (Blk b8 80 [.string ((l.getD i dt0).ctors.getD j ct0).name, .slice R59_ ((l.getD i dt0).ctors.getD j ct0).fields.length c59_] :: Blk b6 83 [.string (l.getD i dt0).name, .slice R27_ (l.getD i dt0).ctors.length c27_] :: Blk bd 126 [.map (some b0), .map (some b1), .map (some b2)] :: L) _ := Hd.pm (by repeat (first | exact pm_refl _ | constructor | refine pm_skip ?_))
  refine wjV (k := 0) rfl HSd (fun W HW => v_move rfl) ?_
  refine wjV (k := 1) rfl HSd (fun W HW => v_nil rfl) ?_
  refine wjV (k := 2) rfl HSd (fun W HW => v_fb (o2 := 2) fa126_2 rfl rfl) ?_
  refine wjV (k := 3) rfl HSd (fun W HW => v_load one124 rfl (HW.at (by repeat constructor) rfl)) ?_
  refine wjV (k := 4) rfl HSd (fun W HW => v_fb (o2 := 0) fa80_0 rfl rfl) ?_
  refine wjV (k := 5) rfl HSd (fun W HW => v_load one9 rfl (HW.at (by repeat constructor) rfl)) ?_
  refine wjV (k := 6) rfl HSd (fun W HW => v_fb (o2 := 0) fa83_0 rfl rfl) ?_
  refine wjV (k := 7) rfl HSd (fun W HW => v_load one9 rfl (HW.at (by repeat constructor) rfl)) ?_
  refine wj_t (k := 8) rfl (by kernel_rfl) ?_
  refine wl_mapset (Kk := KS) (enc := Value.string) (b := b2) (kx := ((l.getD i dt0).ctors.getD j ct0).name) (vx := (l.getD i dt0).name) Hd (by repeat constructor) Try.underlying124 (show KS.ok ((l.getD i dt0).ctors.getD j ct0).name from Nat.le_trans (hl.up hin hjn).1 (by decide)) (by unfold maxLen; omega) rfl rfl rfl ?_
  intro w29 H29
  refine wl_nil (tn ⟨fun hlt => absurd hlt (by rw [show allH _ _ _ = true by kernel_rfl]; simp), ?_⟩)
  refine wj_done (by kernel_rfl) ?_
  refine wc_region ?_
  refine wV (v_addi rfl rfl (by omega)) ?_
  refine wM ?_
  refine wl_nil ?_
  exact ⟨(j + 1, _), (sc rfl (sc rfl (sc rfl (sc rfl (sc rfl (sc rfl (sc rfl (sc rfl (sc rfl (sn _)))))))))), ⟨⟨by dsimp only; omega, hO.next hin hjn hcn1 hcn2, by dsimp only; rw [upC_succ hjn]; exact hC.add hcn2 hl59_ hR59_⟩, by dsimp only; rw [upC_len1 hjn, upC_of hjn hcn2]; exact H29.pm (by repeat (first | exact pm_refl _ | constructor | refine pm_skip ?_))⟩, by dsimp only; omega⟩
end Go.Proofs.Ytgdemplcpcacaaa.KnownD

/-! An action's type, walked. -/
namespace Go.Proofs.Ytgdemplcpcacaaa.TypD
open Go Go.RowKit Go.Proofs.YtgdemplcpcacaaaFx Go.Proofs.Ytgdemplcpcacaaa.NameW Go.Proofs.Ytgdemplcpcacaaa.KindsW Go.Proofs.Ytgdemplcpcacaaa.KnownD Go.Proofs.Ytgdemplcpcacaaa.PValue
theorem agg69 : Agg Try.prog 69 4 := agg_of Try.underlying69 (by kernel_rfl)
theorem en49 : Enters Try.prog 49 := enters Try.func49 (by kernel_rfl) rfl
theorem en63 : Enters Try.prog 63 := enters Try.func63 (by kernel_rfl) rfl
theorem fa126_1 : FieldAt Try.prog 126 1 1 := field_at (sz := 0) Try.underlying126 rfl (by kernel_rfl) rfl
theorem fa126_2 : FieldAt Try.prog 126 2 2 := field_at (sz := 0) Try.underlying126 rfl (by kernel_rfl) rfl
theorem fa69_0 : FieldAt Try.prog 69 0 0 := field_at (sz := 0) Try.underlying69 rfl (by kernel_rfl) rfl
theorem fa69_1 : FieldAt Try.prog 69 1 1 := field_at (sz := 0) Try.underlying69 rfl (by kernel_rfl) rfl
theorem fa69_2 : FieldAt Try.prog 69 2 2 := field_at (sz := 0) Try.underlying69 rfl (by kernel_rfl) rfl
theorem fa69_3 : FieldAt Try.prog 69 3 3 := field_at (sz := 0) Try.underlying69 rfl (by kernel_rfl) rfl
theorem fa80_1 : FieldAt Try.prog 80 1 1 := field_at (sz := 0) Try.underlying80 rfl (by kernel_rfl) rfl
theorem mixed : Try.prog.follows .mixedOrders = true := by kernel_rfl
theorem one123 : One Try.prog 123 := one_of Try.underlying123 rfl (by kernel_rfl)
theorem one124 : One Try.prog 124 := one_of Try.underlying124 rfl (by kernel_rfl)
theorem one3 : One Try.prog 3 := one_of Try.underlying3 rfl (by kernel_rfl)
theorem one40 : One Try.prog 40 := one_of Try.underlying40 rfl (by kernel_rfl)
theorem one67 : One Try.prog 67 := one_of Try.underlying67 rfl (by kernel_rfl)
theorem one9 : One Try.prog 9 := one_of Try.underlying9 rfl (by kernel_rfl)
theorem sz69 : ∀ W, (sizeOf 69).run Try.prog W = .ok 4 W := size_of (by kernel_rfl)
theorem sz80 : ∀ W, (sizeOf 80).run Try.prog W = .ok 2 W := size_of (by kernel_rfl)
theorem sz9 : ∀ W, (sizeOf 9).run Try.prog W = .ok 1 W := size_of (by kernel_rfl)
theorem zv69 : ∀ W, (zeroValue 69).run Try.prog W = .ok (.agg #[.int .i64 0, .int .i64 0, .string ⟨#[]⟩, .slice none 0 0]) W := zero_of (by kernel_rfl)
theorem zv80 : ∀ W, (zeroValue 80).run Try.prog W = .ok (.agg #[.string ⟨#[]⟩, .slice none 0 0]) W := zero_of (by kernel_rfl)
theorem zv9 : ∀ W, (zeroValue 9).run Try.prog W = .ok (.string ⟨#[]⟩) W := zero_of (by kernel_rfl)

/-- What data mean, as it is read. -/
structure DsR (w : World) (bd b0 b1 b2 : Nat) (ns : List ByteArray) (P : List (ByteArray × Ct)) (fC : ByteArray → Option Value) : Prop where
  c : ∀ j u, ([.map (some b0), .map (some b1), .map (some b2)] : List Value)[j]? = some u → w.cell? ⟨bd, j, none⟩ = some u
  m0 : ∃ (N : Nat) (S : Nat → Prop), ∀ W, Below w.heap.size w W → (Mp KS Value.bool b0 N (metF ns)).p W S
  m1 : ∃ (N : Nat) (S : Nat → Prop), ∀ W, Below w.heap.size w W → (Mp KS VId b1 N fC).p W S
  m2 : ∃ (N : Nat) (S : Nat → Prop), ∀ W, Below w.heap.size w W → (Mp KS Value.string b2 N (ofF P)).p W S
  r : CRel w P fC
theorem mp_below {β : Type} {enc : β → Value} {b N : Nat} {f : ByteArray → Option β} {W0 w : World} {L : List Ch} (H : Holds W0 L w) (U : Upd L (Mp KS enc b N f) (Mp KS enc b N f) L) : ∃ (N : Nat) (S : Nat → Prop), ∀ W, Below w.heap.size w W → (Mp KS enc b N f).p W S := by
  obtain ⟨S, hS, h⟩ := H.get U
  exact ⟨N, S, fun W hb => (Mp KS enc b N f).st (fun k hk => hb.block k (hS k hk).2) h⟩
theorem DsR.below {w w' : World} {bd b0 b1 b2 : Nat} {ns : List ByteArray} {P : List (ByteArray × Ct)} {fC : ByteArray → Option Value} (h : DsR w bd b0 b1 b2 ns P fC) (hb : Below w.heap.size w w') : DsR w' bd b0 b1 b2 ns P fC where
  c := fun j u hu => cell_below hb (h.c j u hu)
  m0 := by obtain ⟨N, S, h1⟩ := h.m0; exact ⟨N, S, fun W hW => h1 W (hb.trans (hW.mono hb.size))⟩
  m1 := by obtain ⟨N, S, h1⟩ := h.m1; exact ⟨N, S, fun W hW => h1 W (hb.trans (hW.mono hb.size))⟩
  m2 := by obtain ⟨N, S, h1⟩ := h.m2; exact ⟨N, S, fun W hW => h1 W (hb.trans (hW.mono hb.size))⟩
  r := h.r.below hb
theorem dsr_of {W0 w : World} {L : List Ch} {bd b0 b1 b2 N0 N1 N2 : Nat} {ns : List ByteArray} {P : List (ByteArray × Ct)} {fC : ByteArray → Option Value} (hC : CRel W0 P fC) (H : Holds W0 L w) (U : Upd L (Blk bd 126 [.map (some b0), .map (some b1), .map (some b2)]) (Blk bd 126 [.map (some b0), .map (some b1), .map (some b2)]) L) (U0 : Upd L (Mp KS Value.bool b0 N0 (metF ns)) (Mp KS Value.bool b0 N0 (metF ns)) L) (U1 : Upd L (Mp KS VId b1 N1 fC) (Mp KS VId b1 N1 fC) L) (U2 : Upd L (Mp KS Value.string b2 N2 (ofF P)) (Mp KS Value.string b2 N2 (ofF P)) L) : DsR w bd b0 b1 b2 ns P fC where
  c := fun j u hu => by have := H.ats U j u hu; rwa [Addr.add_lit, Nat.zero_add] at this
  m0 := mp_below H U0
  m1 := mp_below H U1
  m2 := mp_below H U2
  r := hC.below H.old

def TypOk (P : List (ByteArray × Ct)) (t : Ac) : Prop := ∀ (w : World) (A B : Option Addr) (k kd bd b0 b1 b2 : Nat) (ns sy : List ByteArray) (fC : ByteArray → Option Value) (hds : DsR w bd b0 b1 b2 ns P fC) (hsy : Rd kStr w A sy) (hr : Rd (kTr fAc) w B t.kids) (hall : t.All (nodeOk sy.length)) (hcn : t.cnt ≤ 1099511627776), Calls Try.prog 49 #[.pointer (some ⟨bd, 0, none⟩), .agg #[.int .i64 t.x.kind, .int .i64 t.x.at_, .string t.x.name, .slice B t.kids.length k], .slice A sy.length kd] w fun e w' => ∃ v, e = .returned v ∧ v = .tuple #[.string (typ P sy t).1, .int .i64 (typ P sy t).2] ∧ Holds w [] w'

set_option maxHeartbeats 6400000 in
set_option maxRecDepth 100000 in
theorem typed_step {P : List (ByteArray × Ct)} {t : Ac} {w : World} {A B : Option Addr} {k kd bd b0 b1 b2 : Nat} {ns sy : List ByteArray} {fC : ByteArray → Option Value} (hds : DsR w bd b0 b1 b2 ns P fC) (hsy : Rd kStr w A sy) (hr : Rd (kTr fAc) w B t.kids) (hall : t.All (nodeOk sy.length)) (hcn : t.cnt ≤ 1099511627776) (ih : ∀ t' ∈ t.kids, TypOk P t') : Calls Try.prog 49 #[.pointer (some ⟨bd, 0, none⟩), .agg #[.int .i64 t.x.kind, .int .i64 t.x.at_, .string t.x.name, .slice B t.kids.length k], .slice A sy.length kd] w fun e w' => ∃ v, e = .returned v ∧ v = .tuple #[.string (typ P sy t).1, .int .i64 (typ P sy t).2] ∧ Holds w [] w' := by
  obtain ⟨hn, hks⟩ := (Tr.All_eq t).1 hall
  have hcnt := Tr.cnt_eq t
  have hkl := Tr.cnts_len t.kids
  have hdc := hds.c
  have hC := hds.r
  obtain ⟨N1, S1, hM1⟩ := hds.m1
  obtain ⟨N2, S2, hM2⟩ := hds.m2
  refine calls_of Try.func49 rfl Try.ntmps49 rfl ?_
  have H := Holds.start w
  refine wcR ?_
  refine wl_box (cs := [_, _, _, _]) H rfl rfl rfl ?_
  intro b4 w1 hb4 H2
  refine wA ?_
  refine wA ?_
  refine wl_nil ?_
  refine wc_seq ?_
  refine wcR ?_
  refine wV (v_fb (o2 := 0) fa69_0 rfl rfl) ?_
  refine wV (v_load one3 rfl (H2.at (by repeat constructor) rfl)) ?_
  refine wV (v_eql rfl rfl) ?_
  refine wl_nil ?_
  refine wc_cond rfl (fun c0 => ?_) (fun c0 => ?_)
  rotate_left
  ·have c0p := oF c0
   refine wc_skip ?_
   refine wc_seq ?_
   refine wcR ?_
   refine wV (v_loadN agg69 rfl rfl (H2.ats (by repeat constructor))) ?_
   refine wl_call en63 rfl rfl (plain_calls hn) ?_
   rintro _ w19 ⟨rfl, Hc⟩
   have H20 := H2.call0 Hc
   refine wV (v_not rfl) ?_
   refine wl_nil ?_
   refine wc_cond_f rfl ?_
   refine wc_skip ?_
   refine wc_seq ?_
   refine wcR ?_
   refine wV (v_fb (o2 := 0) fa69_0 rfl rfl) ?_
   refine wV (v_load one3 rfl (H20.at (by repeat constructor) rfl)) ?_
   refine wl_nil ?_
   refine wc_block ?_
   refine wcR ?_
   refine wV (v_eql rfl rfl) ?_
   refine wA ?_
   refine wl_nil ?_
   refine wc_cond rfl (fun c7 => ?_) (fun c7 => ?_)
   rotate_left
   ·have c7p := oF c7
    refine wcR ?_
    refine wV (v_eql rfl rfl) ?_
    refine wA ?_
    refine wl_nil ?_
    refine wc_cond rfl (fun c9 => ?_) (fun c9 => ?_)
    ·have c9p := oT c9
     refine wcR ?_
     refine wA ?_
     refine wA ?_
     refine wl_nil ?_
     refine wc_ret ?_
     first
       | (have q_ := c5p
          have e_ : typs P sy (t.kids.take (i + 1)) p.2.fields = 210 := by rw [hss, typ1, if_pos c4p, if_neg (show ¬ _ = p.2.fields.getD i s0 from c5p)]
          have e2_ := typs_stop (P := P) (sy := sy) t.kids p.2.fields (i + 1) (by rw [e_]; decide)
          exact ⟨_, res2 rfl rfl rfl, by rw [typ_node c0p hp, if_pos (by omega), e2_, e_]; rfl, H20.pm (Pm.nil _)⟩)
       | (have q_ := c4p
          have e_ : typs P sy (t.kids.take (i + 1)) p.2.fields = (typ P sy (t.kids.getD i ac0)).2 := by rw [hss, typ1, if_neg c4p]
          have e2_ := typs_stop (P := P) (sy := sy) t.kids p.2.fields (i + 1) (by rw [e_]; exact c4p)
          exact ⟨_, res2 rfl rfl rfl, by rw [typ_node c0p hp, if_pos (by omega), e2_, e_, if_neg c4p]; rfl, H20.pm (Pm.nil _)⟩)
       | (have q_ := c3p
          rw [List.take_of_length_le (by omega)] at hty
          exact ⟨_, res2 rfl rfl rfl, by rw [typ_node c0p hp, if_pos (by omega), if_pos hty], H20.pm (Pm.nil _)⟩)
       | (have q_ := g29p
          exact ⟨_, res2 rfl rfl rfl, by rw [typ_node_no c0p (opt_none (hq4.symm.trans g29p))], H20.pm (Pm.nil _)⟩)
       | (have q_ := c1p
          have hfs : (fnd P t.x.name).isSome = true := hq4.symm.trans g29p
          obtain ⟨p, hp⟩ := Option.isSome_iff_exists.1 hfs
          have hqp := hq5 p hp
          exact ⟨_, res2 rfl rfl rfl, by rw [typ_node c0p hp, if_neg (by rw [← hqp]; omega)], H20.pm (Pm.nil _)⟩)
       | (have q_ := c8p
          exact ⟨_, res2 rfl rfl rfl, by rw [typ_pick c7p, if_pos (show sy.getD t.x.at_.toNat s0 = s0 from c8p)], H20.pm (Pm.nil _)⟩)
       | (have q_ := c8p
          exact ⟨_, res2 rfl rfl rfl, by rw [typ_pick c7p, if_neg (show ¬ sy.getD t.x.at_.toNat s0 = s0 from c8p)]; rfl, H20.pm (Pm.nil _)⟩)
       | (have q_ := c7p
          exact absurd hn (by unfold nodeOk; omega))
       | exact ⟨_, res2 rfl rfl rfl, by rw [typ_text c9p], H20.pm (Pm.nil _)⟩
       | exact ⟨_, res2 rfl rfl rfl, by rw [typ_none c7p c0p c9p], H20.pm (Pm.nil _)⟩
    have c9p := oF c9
    refine wc_skip ?_
    refine wcR ?_
    refine wA ?_
    refine wA ?_
    refine wl_nil ?_
    refine wc_ret ?_
    first
      | (have q_ := c5p
         have e_ : typs P sy (t.kids.take (i + 1)) p.2.fields = 210 := by rw [hss, typ1, if_pos c4p, if_neg (show ¬ _ = p.2.fields.getD i s0 from c5p)]
         have e2_ := typs_stop (P := P) (sy := sy) t.kids p.2.fields (i + 1) (by rw [e_]; decide)
         exact ⟨_, res2 rfl rfl rfl, by rw [typ_node c0p hp, if_pos (by omega), e2_, e_]; rfl, H20.pm (Pm.nil _)⟩)
      | (have q_ := c4p
         have e_ : typs P sy (t.kids.take (i + 1)) p.2.fields = (typ P sy (t.kids.getD i ac0)).2 := by rw [hss, typ1, if_neg c4p]
         have e2_ := typs_stop (P := P) (sy := sy) t.kids p.2.fields (i + 1) (by rw [e_]; exact c4p)
         exact ⟨_, res2 rfl rfl rfl, by rw [typ_node c0p hp, if_pos (by omega), e2_, e_, if_neg c4p]; rfl, H20.pm (Pm.nil _)⟩)
      | (have q_ := c3p
         rw [List.take_of_length_le (by omega)] at hty
         exact ⟨_, res2 rfl rfl rfl, by rw [typ_node c0p hp, if_pos (by omega), if_pos hty], H20.pm (Pm.nil _)⟩)
      | (have q_ := g29p
         exact ⟨_, res2 rfl rfl rfl, by rw [typ_node_no c0p (opt_none (hq4.symm.trans g29p))], H20.pm (Pm.nil _)⟩)
      | (have q_ := c1p
         have hfs : (fnd P t.x.name).isSome = true := hq4.symm.trans g29p
         obtain ⟨p, hp⟩ := Option.isSome_iff_exists.1 hfs
         have hqp := hq5 p hp
         exact ⟨_, res2 rfl rfl rfl, by rw [typ_node c0p hp, if_neg (by rw [← hqp]; omega)], H20.pm (Pm.nil _)⟩)
      | (have q_ := c8p
         exact ⟨_, res2 rfl rfl rfl, by rw [typ_pick c7p, if_pos (show sy.getD t.x.at_.toNat s0 = s0 from c8p)], H20.pm (Pm.nil _)⟩)
      | (have q_ := c8p
         exact ⟨_, res2 rfl rfl rfl, by rw [typ_pick c7p, if_neg (show ¬ sy.getD t.x.at_.toNat s0 = s0 from c8p)]; rfl, H20.pm (Pm.nil _)⟩)
      | (have q_ := c7p
         exact absurd hn (by unfold nodeOk; omega))
      | exact ⟨_, res2 rfl rfl rfl, by rw [typ_text c9p], H20.pm (Pm.nil _)⟩
      | exact ⟨_, res2 rfl rfl rfl, by rw [typ_none c7p c0p c9p], H20.pm (Pm.nil _)⟩
   have c7p := oT c7
   refine wc_seq ?_
   refine wcR ?_
   refine wV (v_fb (o2 := 1) fa69_1 rfl rfl) ?_
   refine wV (v_load one3 rfl (H20.at (by repeat constructor) rfl)) ?_
   refine wV (v_lss rfl rfl) ?_
   refine wM ?_
   refine wl_guard rfl rfl rfl (fun g84 => ?_) (fun g84 => ?_)
   rotate_left
   ·have g84p := oT g84
    refine wF g84 ?_
    refine wF g84 ?_
    refine wF g84 ?_
    refine wF g84 ?_
    refine wV (v_pick_t rfl g84 rfl) ?_
    refine wM ?_
    refine wF rfl ?_
    refine wF rfl ?_
    refine wF rfl ?_
    refine wF rfl ?_
    refine wF rfl ?_
    refine wF rfl ?_
    refine wV (v_pick_t rfl rfl rfl) ?_
    refine wl_nil ?_
    refine wc_cond_t rfl ?_
    refine wcR ?_
    refine wA ?_
    refine wA ?_
    refine wl_nil ?_
    refine wc_ret ?_
    first
      | (have q_ := c5p
         have e_ : typs P sy (t.kids.take (i + 1)) p.2.fields = 210 := by rw [hss, typ1, if_pos c4p, if_neg (show ¬ _ = p.2.fields.getD i s0 from c5p)]
         have e2_ := typs_stop (P := P) (sy := sy) t.kids p.2.fields (i + 1) (by rw [e_]; decide)
         exact ⟨_, res2 rfl rfl rfl, by rw [typ_node c0p hp, if_pos (by omega), e2_, e_]; rfl, H20.pm (Pm.nil _)⟩)
      | (have q_ := c4p
         have e_ : typs P sy (t.kids.take (i + 1)) p.2.fields = (typ P sy (t.kids.getD i ac0)).2 := by rw [hss, typ1, if_neg c4p]
         have e2_ := typs_stop (P := P) (sy := sy) t.kids p.2.fields (i + 1) (by rw [e_]; exact c4p)
         exact ⟨_, res2 rfl rfl rfl, by rw [typ_node c0p hp, if_pos (by omega), e2_, e_, if_neg c4p]; rfl, H20.pm (Pm.nil _)⟩)
      | (have q_ := c3p
         rw [List.take_of_length_le (by omega)] at hty
         exact ⟨_, res2 rfl rfl rfl, by rw [typ_node c0p hp, if_pos (by omega), if_pos hty], H20.pm (Pm.nil _)⟩)
      | (have q_ := g29p
         exact ⟨_, res2 rfl rfl rfl, by rw [typ_node_no c0p (opt_none (hq4.symm.trans g29p))], H20.pm (Pm.nil _)⟩)
      | (have q_ := c1p
         have hfs : (fnd P t.x.name).isSome = true := hq4.symm.trans g29p
         obtain ⟨p, hp⟩ := Option.isSome_iff_exists.1 hfs
         have hqp := hq5 p hp
         exact ⟨_, res2 rfl rfl rfl, by rw [typ_node c0p hp, if_neg (by rw [← hqp]; omega)], H20.pm (Pm.nil _)⟩)
      | (have q_ := c8p
         exact ⟨_, res2 rfl rfl rfl, by rw [typ_pick c7p, if_pos (show sy.getD t.x.at_.toNat s0 = s0 from c8p)], H20.pm (Pm.nil _)⟩)
      | (have q_ := c8p
         exact ⟨_, res2 rfl rfl rfl, by rw [typ_pick c7p, if_neg (show ¬ sy.getD t.x.at_.toNat s0 = s0 from c8p)]; rfl, H20.pm (Pm.nil _)⟩)
      | (have q_ := c7p
         exact absurd hn (by unfold nodeOk; omega))
      | exact ⟨_, res2 rfl rfl rfl, by rw [typ_text c9p], H20.pm (Pm.nil _)⟩
      | exact ⟨_, res2 rfl rfl rfl, by rw [typ_none c7p c0p c9p], H20.pm (Pm.nil _)⟩
   have g84p := oF g84
   refine wV (v_fb (o2 := 1) fa69_1 rfl rfl) ?_
   refine wO g84 ?_
   refine wV (v_load one3 rfl (H20.at (by repeat constructor) rfl)) ?_
   refine wO g84 ?_
   refine wM ?_
   refine wO g84 ?_
   refine wV (v_len Try.underlying40 rfl) ?_
   refine wO g84 ?_
   refine wV (v_geq rfl rfl) ?_
   refine wV (v_pick_f rfl g84 rfl) ?_
   refine wM ?_
   refine wl_guard rfl rfl rfl (fun g91 => ?_) (fun g91 => ?_)
   rotate_left
   ·have g91p := oT g91
    refine wF g91 ?_
    refine wF g91 ?_
    refine wF g91 ?_
    refine wF g91 ?_
    refine wF g91 ?_
    refine wV (v_pick_t rfl g91 rfl) ?_
    refine wl_nil ?_
    refine wc_cond_t rfl ?_
    refine wcR ?_
    refine wA ?_
    refine wA ?_
    refine wl_nil ?_
    refine wc_ret ?_
    first
      | (have q_ := c5p
         have e_ : typs P sy (t.kids.take (i + 1)) p.2.fields = 210 := by rw [hss, typ1, if_pos c4p, if_neg (show ¬ _ = p.2.fields.getD i s0 from c5p)]
         have e2_ := typs_stop (P := P) (sy := sy) t.kids p.2.fields (i + 1) (by rw [e_]; decide)
         exact ⟨_, res2 rfl rfl rfl, by rw [typ_node c0p hp, if_pos (by omega), e2_, e_]; rfl, H20.pm (Pm.nil _)⟩)
      | (have q_ := c4p
         have e_ : typs P sy (t.kids.take (i + 1)) p.2.fields = (typ P sy (t.kids.getD i ac0)).2 := by rw [hss, typ1, if_neg c4p]
         have e2_ := typs_stop (P := P) (sy := sy) t.kids p.2.fields (i + 1) (by rw [e_]; exact c4p)
         exact ⟨_, res2 rfl rfl rfl, by rw [typ_node c0p hp, if_pos (by omega), e2_, e_, if_neg c4p]; rfl, H20.pm (Pm.nil _)⟩)
      | (have q_ := c3p
         rw [List.take_of_length_le (by omega)] at hty
         exact ⟨_, res2 rfl rfl rfl, by rw [typ_node c0p hp, if_pos (by omega), if_pos hty], H20.pm (Pm.nil _)⟩)
      | (have q_ := g29p
         exact ⟨_, res2 rfl rfl rfl, by rw [typ_node_no c0p (opt_none (hq4.symm.trans g29p))], H20.pm (Pm.nil _)⟩)
      | (have q_ := c1p
         have hfs : (fnd P t.x.name).isSome = true := hq4.symm.trans g29p
         obtain ⟨p, hp⟩ := Option.isSome_iff_exists.1 hfs
         have hqp := hq5 p hp
         exact ⟨_, res2 rfl rfl rfl, by rw [typ_node c0p hp, if_neg (by rw [← hqp]; omega)], H20.pm (Pm.nil _)⟩)
      | (have q_ := c8p
         exact ⟨_, res2 rfl rfl rfl, by rw [typ_pick c7p, if_pos (show sy.getD t.x.at_.toNat s0 = s0 from c8p)], H20.pm (Pm.nil _)⟩)
      | (have q_ := c8p
         exact ⟨_, res2 rfl rfl rfl, by rw [typ_pick c7p, if_neg (show ¬ sy.getD t.x.at_.toNat s0 = s0 from c8p)]; rfl, H20.pm (Pm.nil _)⟩)
      | (have q_ := c7p
         exact absurd hn (by unfold nodeOk; omega))
      | exact ⟨_, res2 rfl rfl rfl, by rw [typ_text c9p], H20.pm (Pm.nil _)⟩
      | exact ⟨_, res2 rfl rfl rfl, by rw [typ_none c7p c0p c9p], H20.pm (Pm.nil _)⟩
   have g91p := oF g91
   refine wM ?_
   refine wO g91 ?_
   refine wV (v_fb (o2 := 1) fa69_1 rfl rfl) ?_
   refine wO g91 ?_
   refine wV (v_load one3 rfl (H20.at (by repeat constructor) rfl)) ?_
   refine wO g91 ?_
   refine wV (v_idx Try.underlying40 sz9 hsy.ad rfl rfl (by omega) (by omega)) ?_
   refine wO g91 ?_
   refine wV (v_load one9 rfl (H20.cell (hsy.at1s (by omega) (by omega)))) ?_
   refine wO g91 ?_
   refine wV (v_eqls rfl rfl) ?_
   refine wV (v_pick_f rfl g91 rfl) ?_
   refine wl_nil ?_
   refine wc_cond rfl (fun c8 => ?_) (fun c8 => ?_)
   ·have c8p := oT c8
    refine wcR ?_
    refine wA ?_
    refine wA ?_
    refine wl_nil ?_
    refine wc_ret ?_
    first
      | (have q_ := c5p
         have e_ : typs P sy (t.kids.take (i + 1)) p.2.fields = 210 := by rw [hss, typ1, if_pos c4p, if_neg (show ¬ _ = p.2.fields.getD i s0 from c5p)]
         have e2_ := typs_stop (P := P) (sy := sy) t.kids p.2.fields (i + 1) (by rw [e_]; decide)
         exact ⟨_, res2 rfl rfl rfl, by rw [typ_node c0p hp, if_pos (by omega), e2_, e_]; rfl, H20.pm (Pm.nil _)⟩)
      | (have q_ := c4p
         have e_ : typs P sy (t.kids.take (i + 1)) p.2.fields = (typ P sy (t.kids.getD i ac0)).2 := by rw [hss, typ1, if_neg c4p]
         have e2_ := typs_stop (P := P) (sy := sy) t.kids p.2.fields (i + 1) (by rw [e_]; exact c4p)
         exact ⟨_, res2 rfl rfl rfl, by rw [typ_node c0p hp, if_pos (by omega), e2_, e_, if_neg c4p]; rfl, H20.pm (Pm.nil _)⟩)
      | (have q_ := c3p
         rw [List.take_of_length_le (by omega)] at hty
         exact ⟨_, res2 rfl rfl rfl, by rw [typ_node c0p hp, if_pos (by omega), if_pos hty], H20.pm (Pm.nil _)⟩)
      | (have q_ := g29p
         exact ⟨_, res2 rfl rfl rfl, by rw [typ_node_no c0p (opt_none (hq4.symm.trans g29p))], H20.pm (Pm.nil _)⟩)
      | (have q_ := c1p
         have hfs : (fnd P t.x.name).isSome = true := hq4.symm.trans g29p
         obtain ⟨p, hp⟩ := Option.isSome_iff_exists.1 hfs
         have hqp := hq5 p hp
         exact ⟨_, res2 rfl rfl rfl, by rw [typ_node c0p hp, if_neg (by rw [← hqp]; omega)], H20.pm (Pm.nil _)⟩)
      | (have q_ := c8p
         exact ⟨_, res2 rfl rfl rfl, by rw [typ_pick c7p, if_pos (show sy.getD t.x.at_.toNat s0 = s0 from c8p)], H20.pm (Pm.nil _)⟩)
      | (have q_ := c8p
         exact ⟨_, res2 rfl rfl rfl, by rw [typ_pick c7p, if_neg (show ¬ sy.getD t.x.at_.toNat s0 = s0 from c8p)]; rfl, H20.pm (Pm.nil _)⟩)
      | (have q_ := c7p
         exact absurd hn (by unfold nodeOk; omega))
      | exact ⟨_, res2 rfl rfl rfl, by rw [typ_text c9p], H20.pm (Pm.nil _)⟩
      | exact ⟨_, res2 rfl rfl rfl, by rw [typ_none c7p c0p c9p], H20.pm (Pm.nil _)⟩
   have c8p := oF c8
   refine wc_skip ?_
   refine wcR ?_
   refine wM ?_
   refine wV (v_fb (o2 := 1) fa69_1 rfl rfl) ?_
   refine wV (v_load one3 rfl (H20.at (by repeat constructor) rfl)) ?_
   refine wV (v_idx Try.underlying40 sz9 hsy.ad rfl rfl (by omega) (by omega)) ?_
   refine wV (v_load one9 rfl (H20.cell (hsy.at1s (by omega) (by omega)))) ?_
   refine wA ?_
   refine wA ?_
   refine wl_nil ?_
   refine wc_ret ?_
   first
     | (have q_ := c5p
        have e_ : typs P sy (t.kids.take (i + 1)) p.2.fields = 210 := by rw [hss, typ1, if_pos c4p, if_neg (show ¬ _ = p.2.fields.getD i s0 from c5p)]
        have e2_ := typs_stop (P := P) (sy := sy) t.kids p.2.fields (i + 1) (by rw [e_]; decide)
        exact ⟨_, res2 rfl rfl rfl, by rw [typ_node c0p hp, if_pos (by omega), e2_, e_]; rfl, H20.pm (Pm.nil _)⟩)
     | (have q_ := c4p
        have e_ : typs P sy (t.kids.take (i + 1)) p.2.fields = (typ P sy (t.kids.getD i ac0)).2 := by rw [hss, typ1, if_neg c4p]
        have e2_ := typs_stop (P := P) (sy := sy) t.kids p.2.fields (i + 1) (by rw [e_]; exact c4p)
        exact ⟨_, res2 rfl rfl rfl, by rw [typ_node c0p hp, if_pos (by omega), e2_, e_, if_neg c4p]; rfl, H20.pm (Pm.nil _)⟩)
     | (have q_ := c3p
        rw [List.take_of_length_le (by omega)] at hty
        exact ⟨_, res2 rfl rfl rfl, by rw [typ_node c0p hp, if_pos (by omega), if_pos hty], H20.pm (Pm.nil _)⟩)
     | (have q_ := g29p
        exact ⟨_, res2 rfl rfl rfl, by rw [typ_node_no c0p (opt_none (hq4.symm.trans g29p))], H20.pm (Pm.nil _)⟩)
     | (have q_ := c1p
        have hfs : (fnd P t.x.name).isSome = true := hq4.symm.trans g29p
        obtain ⟨p, hp⟩ := Option.isSome_iff_exists.1 hfs
        have hqp := hq5 p hp
        exact ⟨_, res2 rfl rfl rfl, by rw [typ_node c0p hp, if_neg (by rw [← hqp]; omega)], H20.pm (Pm.nil _)⟩)
     | (have q_ := c8p
        exact ⟨_, res2 rfl rfl rfl, by rw [typ_pick c7p, if_pos (show sy.getD t.x.at_.toNat s0 = s0 from c8p)], H20.pm (Pm.nil _)⟩)
     | (have q_ := c8p
        exact ⟨_, res2 rfl rfl rfl, by rw [typ_pick c7p, if_neg (show ¬ sy.getD t.x.at_.toNat s0 = s0 from c8p)]; rfl, H20.pm (Pm.nil _)⟩)
     | (have q_ := c7p
        exact absurd hn (by unfold nodeOk; omega))
     | exact ⟨_, res2 rfl rfl rfl, by rw [typ_text c9p], H20.pm (Pm.nil _)⟩
     | exact ⟨_, res2 rfl rfl rfl, by rw [typ_none c7p c0p c9p], H20.pm (Pm.nil _)⟩
  have c0p := oT c0
  refine wc_seq ?_
  refine wc_tree [0, 1, 2, 3, 4, 5, 6, 7, 8, 9] (fun W => Holds w [Blk b4 69 [.int .i64 t.x.kind, .int .i64 t.x.at_, .string t.x.name, .slice B t.kids.length k]] W) mixed ?_
  have Hd := H2.drew
  have HSd : Holds w [Blk b4 69 [.int .i64 t.x.kind, .int .i64 t.x.at_, .string t.x.name, .slice B t.kids.length k]] _ := Hd.pm (by repeat constructor)
  refine wjV (k := 0) rfl HSd (fun W HW => v_move rfl) ?_
  refine wjV (k := 1) rfl HSd (fun W HW => v_nil rfl) ?_
  refine wjV (k := 2) rfl HSd (fun W HW => v_fb (o2 := 1) fa126_1 rfl rfl) ?_
  refine wjV (k := 3) rfl HSd (fun W HW => v_load one123 rfl (HW.cell (hdc 1 _ rfl))) ?_
  refine wjV (k := 4) rfl HSd (fun W HW => v_fb (o2 := 2) fa69_2 rfl rfl) ?_
  refine wjV (k := 5) rfl HSd (fun W HW => v_load one9 rfl (HW.at (by repeat constructor) rfl)) ?_
  have hsz : t.x.name.size ≤ 32 := by unfold nodeOk at hn; omega
  obtain ⟨q9, A9, k9, hq1, hq2, hq3, hq4, hq5⟩ := hC.look t.x.name
  refine wjV (k := 6) rfl HSd (fun W HW => v_lookRok (hM1 _ HW.old) Try.underlying123 zv80 (show KS.ok t.x.name from Nat.le_trans hsz (by decide)) rfl rfl hq1) ?_
  refine wjV (k := 7) rfl HSd (fun W HW => v_move rfl) ?_
  refine wjV (k := 8) rfl HSd (fun W HW => v_extract rfl rfl) ?_
  refine wjV (k := 9) rfl HSd (fun W HW => v_extract rfl rfl) ?_
  refine wj_t (k := 10) rfl (by kernel_rfl) ?_
  refine wl_alloc (cs := [.string ⟨#[]⟩, .slice none 0 0]) Hd rfl zv80 rfl ?_
  intro b8 w3 hb8 H4
  have HS5 : Holds w [Blk b4 69 [.int .i64 t.x.kind, .int .i64 t.x.at_, .string t.x.name, .slice B t.kids.length k]] _ := H4.pm (by repeat constructor)
  refine wl_nil (tn ⟨fun _ => HS5, ?_⟩)
  refine wj_t (k := 11) rfl (by kernel_rfl) ?_
  refine wl_store (vs := [_, _]) H4 (by repeat constructor) sz80 rfl rfl rfl rfl rfl (by (repeat constructor)) ?_
  intro w6 H7 hw6
  have HS8 : Holds w [Blk b4 69 [.int .i64 t.x.kind, .int .i64 t.x.at_, .string t.x.name, .slice B t.kids.length k]] _ := H7.pm (by repeat constructor)
  refine wl_nil (tn ⟨fun _ => HS8, ?_⟩)
  refine wj_t (k := 12) rfl (by kernel_rfl) ?_
  refine wA ?_
  refine wl_nil (tn ⟨fun hlt => absurd hlt (by rw [show allH _ _ _ = true by kernel_rfl]; simp), ?_⟩)
  refine wj_done (by kernel_rfl) ?_
  refine wc_seq ?_
  refine wcR ?_
  refine wM ?_
  refine wV (v_not rfl) ?_
  refine wM ?_
  refine wl_guard rfl rfl rfl (fun g29 => ?_) (fun g29 => ?_)
  rotate_left
  ·have g29p := of_n_t g29
   refine wF g29 ?_
   refine wF g29 ?_
   refine wF g29 ?_
   refine wF g29 ?_
   refine wF g29 ?_
   refine wF g29 ?_
   refine wV (v_pick_t rfl g29 rfl) ?_
   refine wl_nil ?_
   refine wc_cond_t rfl ?_
   refine wcR ?_
   refine wA ?_
   refine wA ?_
   refine wl_nil ?_
   refine wc_ret ?_
   first
     | (have q_ := c5p
        have e_ : typs P sy (t.kids.take (i + 1)) p.2.fields = 210 := by rw [hss, typ1, if_pos c4p, if_neg (show ¬ _ = p.2.fields.getD i s0 from c5p)]
        have e2_ := typs_stop (P := P) (sy := sy) t.kids p.2.fields (i + 1) (by rw [e_]; decide)
        exact ⟨_, res2 rfl rfl rfl, by rw [typ_node c0p hp, if_pos (by omega), e2_, e_]; rfl, H7.pm (Pm.nil _)⟩)
     | (have q_ := c4p
        have e_ : typs P sy (t.kids.take (i + 1)) p.2.fields = (typ P sy (t.kids.getD i ac0)).2 := by rw [hss, typ1, if_neg c4p]
        have e2_ := typs_stop (P := P) (sy := sy) t.kids p.2.fields (i + 1) (by rw [e_]; exact c4p)
        exact ⟨_, res2 rfl rfl rfl, by rw [typ_node c0p hp, if_pos (by omega), e2_, e_, if_neg c4p]; rfl, H7.pm (Pm.nil _)⟩)
     | (have q_ := c3p
        rw [List.take_of_length_le (by omega)] at hty
        exact ⟨_, res2 rfl rfl rfl, by rw [typ_node c0p hp, if_pos (by omega), if_pos hty], H7.pm (Pm.nil _)⟩)
     | (have q_ := g29p
        exact ⟨_, res2 rfl rfl rfl, by rw [typ_node_no c0p (opt_none (hq4.symm.trans g29p))], H7.pm (Pm.nil _)⟩)
     | (have q_ := c1p
        have hfs : (fnd P t.x.name).isSome = true := hq4.symm.trans g29p
        obtain ⟨p, hp⟩ := Option.isSome_iff_exists.1 hfs
        have hqp := hq5 p hp
        exact ⟨_, res2 rfl rfl rfl, by rw [typ_node c0p hp, if_neg (by rw [← hqp]; omega)], H7.pm (Pm.nil _)⟩)
     | (have q_ := c8p
        exact ⟨_, res2 rfl rfl rfl, by rw [typ_pick c7p, if_pos (show sy.getD t.x.at_.toNat s0 = s0 from c8p)], H7.pm (Pm.nil _)⟩)
     | (have q_ := c8p
        exact ⟨_, res2 rfl rfl rfl, by rw [typ_pick c7p, if_neg (show ¬ sy.getD t.x.at_.toNat s0 = s0 from c8p)]; rfl, H7.pm (Pm.nil _)⟩)
     | (have q_ := c7p
        exact absurd hn (by unfold nodeOk; omega))
     | exact ⟨_, res2 rfl rfl rfl, by rw [typ_text c9p], H7.pm (Pm.nil _)⟩
     | exact ⟨_, res2 rfl rfl rfl, by rw [typ_none c7p c0p c9p], H7.pm (Pm.nil _)⟩
  have g29p := of_n_f g29
  refine wV (v_fb (o2 := 1) fa80_1 rfl rfl) ?_
  refine wO g29 ?_
  refine wV (v_load one40 rfl (H7.at (by repeat constructor) rfl)) ?_
  refine wO g29 ?_
  refine wV (v_len Try.underlying40 rfl) ?_
  refine wO g29 ?_
  refine wV (v_fb (o2 := 3) fa69_3 rfl rfl) ?_
  refine wO g29 ?_
  refine wV (v_load one67 rfl (H7.at (by repeat constructor) rfl)) ?_
  refine wO g29 ?_
  refine wV (v_len Try.underlying67 rfl) ?_
  refine wO g29 ?_
  refine wV (v_neq rfl rfl) ?_
  refine wV (v_pick_f rfl g29 rfl) ?_
  refine wl_nil ?_
  refine wc_cond rfl (fun c1 => ?_) (fun c1 => ?_)
  ·have c1p := of_nd_t c1
   refine wcR ?_
   refine wA ?_
   refine wA ?_
   refine wl_nil ?_
   refine wc_ret ?_
   first
     | (have q_ := c5p
        have e_ : typs P sy (t.kids.take (i + 1)) p.2.fields = 210 := by rw [hss, typ1, if_pos c4p, if_neg (show ¬ _ = p.2.fields.getD i s0 from c5p)]
        have e2_ := typs_stop (P := P) (sy := sy) t.kids p.2.fields (i + 1) (by rw [e_]; decide)
        exact ⟨_, res2 rfl rfl rfl, by rw [typ_node c0p hp, if_pos (by omega), e2_, e_]; rfl, H7.pm (Pm.nil _)⟩)
     | (have q_ := c4p
        have e_ : typs P sy (t.kids.take (i + 1)) p.2.fields = (typ P sy (t.kids.getD i ac0)).2 := by rw [hss, typ1, if_neg c4p]
        have e2_ := typs_stop (P := P) (sy := sy) t.kids p.2.fields (i + 1) (by rw [e_]; exact c4p)
        exact ⟨_, res2 rfl rfl rfl, by rw [typ_node c0p hp, if_pos (by omega), e2_, e_, if_neg c4p]; rfl, H7.pm (Pm.nil _)⟩)
     | (have q_ := c3p
        rw [List.take_of_length_le (by omega)] at hty
        exact ⟨_, res2 rfl rfl rfl, by rw [typ_node c0p hp, if_pos (by omega), if_pos hty], H7.pm (Pm.nil _)⟩)
     | (have q_ := g29p
        exact ⟨_, res2 rfl rfl rfl, by rw [typ_node_no c0p (opt_none (hq4.symm.trans g29p))], H7.pm (Pm.nil _)⟩)
     | (have q_ := c1p
        have hfs : (fnd P t.x.name).isSome = true := hq4.symm.trans g29p
        obtain ⟨p, hp⟩ := Option.isSome_iff_exists.1 hfs
        have hqp := hq5 p hp
        exact ⟨_, res2 rfl rfl rfl, by rw [typ_node c0p hp, if_neg (by rw [← hqp]; omega)], H7.pm (Pm.nil _)⟩)
     | (have q_ := c8p
        exact ⟨_, res2 rfl rfl rfl, by rw [typ_pick c7p, if_pos (show sy.getD t.x.at_.toNat s0 = s0 from c8p)], H7.pm (Pm.nil _)⟩)
     | (have q_ := c8p
        exact ⟨_, res2 rfl rfl rfl, by rw [typ_pick c7p, if_neg (show ¬ sy.getD t.x.at_.toNat s0 = s0 from c8p)]; rfl, H7.pm (Pm.nil _)⟩)
     | (have q_ := c7p
        exact absurd hn (by unfold nodeOk; omega))
     | exact ⟨_, res2 rfl rfl rfl, by rw [typ_text c9p], H7.pm (Pm.nil _)⟩
     | exact ⟨_, res2 rfl rfl rfl, by rw [typ_none c7p c0p c9p], H7.pm (Pm.nil _)⟩
  have c1p := of_nd_f c1
  have hfs : (fnd P t.x.name).isSome = true := hq4.symm.trans g29p
  obtain ⟨p, hp⟩ := Option.isSome_iff_exists.1 hfs
  obtain rfl := hq5 p hp
  refine wc_skip ?_
  refine wc_seq ?_
  refine wcR ?_
  refine wV (v_loadN agg69 rfl rfl (H7.ats (by repeat constructor))) ?_
  refine wl_call en63 rfl rfl (plain_calls hn) ?_
  rintro _ w10 ⟨rfl, Hc⟩
  have H11 := H7.call0 Hc
  refine wV (v_not rfl) ?_
  refine wl_nil ?_
  refine wc_cond_f rfl ?_
  refine wc_skip ?_
  refine wc_seq ?_
  refine wcR ?_
  refine wV (v_fb (o2 := 3) fa69_3 rfl rfl) ?_
  refine wV (v_load one67 rfl (H11.at (by repeat constructor) rfl)) ?_
  refine wV (v_len Try.underlying67 rfl) ?_
  refine wM ?_
  refine wl_nil ?_
  refine wc_block ?_
  refine wc_loop (σ := Nat) (fun s => [(0, .pointer (some ⟨bd, 0, none⟩)), (2, .slice A sy.length kd), (4, .pointer (some ⟨b4, 0, none⟩)), (8, .pointer (some ⟨b8, 0, none⟩)), (42, .slice B t.kids.length k), (43, .int .i64 t.kids.length), (44, .int .i64 s)]) (fun s W => (s ≤ t.kids.length ∧ typs P sy (t.kids.take s) p.2.fields = 0) ∧ Holds w [Blk b8 80 [.string p.2.name, .slice A9 p.2.fields.length k9], Blk b4 69 [.int .i64 t.x.kind, .int .i64 t.x.at_, .string t.x.name, .slice B t.kids.length k]] W) (fun s => t.kids.length - s) 0 (sc rfl (sc rfl (sc rfl (sc rfl (sc rfl (sc rfl (sc rfl (sn _)))))))) ⟨⟨Nat.zero_le _, by rw [List.take_zero]; exact typs_nil _⟩, H11.pm (by repeat constructor)⟩ ?_
  rintro i W0 ⟨⟨hi, hty⟩, H⟩
  refine wcR ?_
  refine wV (v_lss rfl rfl) ?_
  refine wl_nil ?_
  refine wc_seq ?_
  refine wc_cond rfl (fun c3 => ?_) (fun c3 => ?_)
  rotate_left
  ·have c3p := oF c3
   refine wc_exit ?_
   refine wc_seq ?_
   refine wc_still mixed (by kernel_rfl) ?_
   have Hd := H.drew
   refine ws_v rfl rfl rfl (v_move rfl) ?_
   refine ws_v rfl rfl rfl (v_nil rfl) ?_
   refine ws_v rfl rfl rfl (v_fb (o2 := 2) fa126_2 rfl rfl) ?_
   refine ws_v rfl rfl rfl (v_load one124 rfl (Hd.cell (hdc 2 _ rfl))) ?_
   refine ws_v rfl rfl rfl (v_fb (o2 := 2) fa69_2 rfl rfl) ?_
   refine ws_v rfl rfl rfl (v_load one9 rfl (Hd.at (by repeat constructor) rfl)) ?_
   refine ws_v rfl rfl rfl (v_lookR (hM2 _ Hd.old) Try.underlying124 zv9 (show KS.ok t.x.name from Nat.le_trans hsz (by decide)) rfl rfl (ofF_some hp)) ?_
   refine ws_v rfl rfl rfl (v_assign rfl) ?_
   refine ws_v rfl rfl rfl (v_assign rfl) ?_
   refine ws_nil ?_
   refine wc_ret ?_
   first
     | (have q_ := c5p
        have e_ : typs P sy (t.kids.take (i + 1)) p.2.fields = 210 := by rw [hss, typ1, if_pos c4p, if_neg (show ¬ _ = p.2.fields.getD i s0 from c5p)]
        have e2_ := typs_stop (P := P) (sy := sy) t.kids p.2.fields (i + 1) (by rw [e_]; decide)
        exact ⟨_, res2 rfl rfl rfl, by rw [typ_node c0p hp, if_pos (by omega), e2_, e_]; rfl, Hd.pm (Pm.nil _)⟩)
     | (have q_ := c4p
        have e_ : typs P sy (t.kids.take (i + 1)) p.2.fields = (typ P sy (t.kids.getD i ac0)).2 := by rw [hss, typ1, if_neg c4p]
        have e2_ := typs_stop (P := P) (sy := sy) t.kids p.2.fields (i + 1) (by rw [e_]; exact c4p)
        exact ⟨_, res2 rfl rfl rfl, by rw [typ_node c0p hp, if_pos (by omega), e2_, e_, if_neg c4p]; rfl, Hd.pm (Pm.nil _)⟩)
     | (have q_ := c3p
        rw [List.take_of_length_le (by omega)] at hty
        exact ⟨_, res2 rfl rfl rfl, by rw [typ_node c0p hp, if_pos (by omega), if_pos hty], Hd.pm (Pm.nil _)⟩)
     | (have q_ := g29p
        exact ⟨_, res2 rfl rfl rfl, by rw [typ_node_no c0p (opt_none (hq4.symm.trans g29p))], Hd.pm (Pm.nil _)⟩)
     | (have q_ := c1p
        have hfs : (fnd P t.x.name).isSome = true := hq4.symm.trans g29p
        obtain ⟨p, hp⟩ := Option.isSome_iff_exists.1 hfs
        have hqp := hq5 p hp
        exact ⟨_, res2 rfl rfl rfl, by rw [typ_node c0p hp, if_neg (by rw [← hqp]; omega)], Hd.pm (Pm.nil _)⟩)
     | (have q_ := c8p
        exact ⟨_, res2 rfl rfl rfl, by rw [typ_pick c7p, if_pos (show sy.getD t.x.at_.toNat s0 = s0 from c8p)], Hd.pm (Pm.nil _)⟩)
     | (have q_ := c8p
        exact ⟨_, res2 rfl rfl rfl, by rw [typ_pick c7p, if_neg (show ¬ sy.getD t.x.at_.toNat s0 = s0 from c8p)]; rfl, Hd.pm (Pm.nil _)⟩)
     | (have q_ := c7p
        exact absurd hn (by unfold nodeOk; omega))
     | exact ⟨_, res2 rfl rfl rfl, by rw [typ_text c9p], Hd.pm (Pm.nil _)⟩
     | exact ⟨_, res2 rfl rfl rfl, by rw [typ_none c7p c0p c9p], Hd.pm (Pm.nil _)⟩
  have c3p := oT c3
  have hin : i < t.kids.length := by omega
  refine wc_skip ?_
  refine wc_seq ?_
  refine wc_block ?_
  refine wcR ?_
  refine wM ?_
  refine wV (v_idx Try.underlying67 sz69 hr.ad rfl rfl (by omega) (by omega)) ?_
  obtain ⟨B48_, k48_, hc48_, hl48_, hr48_⟩ := hr.atTr ac0 (i := i) (by omega)
  refine wV (v_loadN (cs := [.int .i64 (t.kids.getD i ac0).x.kind, .int .i64 (t.kids.getD i ac0).x.at_, .string (t.kids.getD i ac0).x.name, .slice B48_ (t.kids.getD i ac0).kids.length k48_]) agg69 rfl rfl (fun q_ u_ hu_ => H.cell (hc48_ q_ u_ hu_))) ?_
  refine wl_alloc (cs := [.int .i64 0, .int .i64 0, .string ⟨#[]⟩, .slice none 0 0]) H rfl zv69 rfl ?_
  intro b11 w13 hb11 H14
  refine wA ?_
  refine wl_store (vs := [_, _, _, _]) H14 (by repeat constructor) sz69 rfl rfl rfl rfl rfl (by (repeat constructor)) ?_
  intro w15 H16 hw15
  refine wl_nil ?_
  refine wcR ?_
  refine wM ?_
  refine wV (v_loadN agg69 rfl rfl (H16.ats (by repeat constructor))) ?_
  refine wM ?_
  refine wl_call en49 rfl rfl (ih _ (getD_mem (z := ac0) hin) _ A _ _ kd bd b0 b1 b2 ns sy fC (hds.below H16.old) (hsy.below H16.old) (hr48_.below H16.old) (Tr.Alls_at ac0 hin hks) (by have h_ := Tr.cnts_succ ac0 t.kids i hin; have h2_ := Tr.cnts_take t.kids (i + 1); omega)) ?_
  rintro _ w17 ⟨rfl, Hc⟩
  have H18 := H16.call0 Hc
  have hss := typs_succ (P := P) (sy := sy) t.kids p.2.fields i hin hty
  refine wM ?_
  refine wV (v_extract rfl rfl) ?_
  refine wV (v_extract rfl rfl) ?_
  refine wA ?_
  refine wA ?_
  refine wl_nil ?_
  refine wc_seq ?_
  refine wcR ?_
  refine wM ?_
  refine wV (v_neq rfl rfl) ?_
  refine wl_nil ?_
  refine wc_cond rfl (fun c4 => ?_) (fun c4 => ?_)
  ·have c4p := of_nd_t c4
   refine wcR ?_
   refine wM ?_
   refine wA ?_
   refine wA ?_
   refine wl_nil ?_
   refine wc_ret ?_
   first
     | (have q_ := c5p
        have e_ : typs P sy (t.kids.take (i + 1)) p.2.fields = 210 := by rw [hss, typ1, if_pos c4p, if_neg (show ¬ _ = p.2.fields.getD i s0 from c5p)]
        have e2_ := typs_stop (P := P) (sy := sy) t.kids p.2.fields (i + 1) (by rw [e_]; decide)
        exact ⟨_, res2 rfl rfl rfl, by rw [typ_node c0p hp, if_pos (by omega), e2_, e_]; rfl, H18.pm (Pm.nil _)⟩)
     | (have q_ := c4p
        have e_ : typs P sy (t.kids.take (i + 1)) p.2.fields = (typ P sy (t.kids.getD i ac0)).2 := by rw [hss, typ1, if_neg c4p]
        have e2_ := typs_stop (P := P) (sy := sy) t.kids p.2.fields (i + 1) (by rw [e_]; exact c4p)
        exact ⟨_, res2 rfl rfl rfl, by rw [typ_node c0p hp, if_pos (by omega), e2_, e_, if_neg c4p]; rfl, H18.pm (Pm.nil _)⟩)
     | (have q_ := c3p
        rw [List.take_of_length_le (by omega)] at hty
        exact ⟨_, res2 rfl rfl rfl, by rw [typ_node c0p hp, if_pos (by omega), if_pos hty], H18.pm (Pm.nil _)⟩)
     | (have q_ := g29p
        exact ⟨_, res2 rfl rfl rfl, by rw [typ_node_no c0p (opt_none (hq4.symm.trans g29p))], H18.pm (Pm.nil _)⟩)
     | (have q_ := c1p
        have hfs : (fnd P t.x.name).isSome = true := hq4.symm.trans g29p
        obtain ⟨p, hp⟩ := Option.isSome_iff_exists.1 hfs
        have hqp := hq5 p hp
        exact ⟨_, res2 rfl rfl rfl, by rw [typ_node c0p hp, if_neg (by rw [← hqp]; omega)], H18.pm (Pm.nil _)⟩)
     | (have q_ := c8p
        exact ⟨_, res2 rfl rfl rfl, by rw [typ_pick c7p, if_pos (show sy.getD t.x.at_.toNat s0 = s0 from c8p)], H18.pm (Pm.nil _)⟩)
     | (have q_ := c8p
        exact ⟨_, res2 rfl rfl rfl, by rw [typ_pick c7p, if_neg (show ¬ sy.getD t.x.at_.toNat s0 = s0 from c8p)]; rfl, H18.pm (Pm.nil _)⟩)
     | (have q_ := c7p
        exact absurd hn (by unfold nodeOk; omega))
     | exact ⟨_, res2 rfl rfl rfl, by rw [typ_text c9p], H18.pm (Pm.nil _)⟩
     | exact ⟨_, res2 rfl rfl rfl, by rw [typ_none c7p c0p c9p], H18.pm (Pm.nil _)⟩
  have c4p := of_nd_f c4
  refine wc_skip ?_
  refine wcR ?_
  refine wM ?_
  refine wV (v_fb (o2 := 1) fa80_1 rfl rfl) ?_
  refine wV (v_load one40 rfl (H18.at (by repeat constructor) rfl)) ?_
  refine wM ?_
  refine wV (v_idx Try.underlying40 sz9 hq3.ad rfl rfl (by omega) (by omega)) ?_
  refine wV (v_load one9 rfl (H18.cell (hq3.at1sN (i := i) (by omega)))) ?_
  refine wV (v_neqs rfl rfl) ?_
  refine wl_nil ?_
  refine wc_cond rfl (fun c5 => ?_) (fun c5 => ?_)
  rotate_left
  ·have c5p := of_nd_f c5
   refine wc_skip ?_
   refine wc_region ?_
   refine wV (v_addi rfl rfl (by omega)) ?_
   refine wM ?_
   refine wl_nil ?_
   exact ⟨i + 1, (sc rfl (sc rfl (sc rfl (sc rfl (sc rfl (sc rfl (sc rfl (sn _)))))))), ⟨⟨by omega, by rw [hss, typ1, if_pos c4p, if_pos (show _ = p.2.fields.getD i s0 from c5p)]⟩, H18.pm (by repeat constructor)⟩, by omega⟩
  have c5p := of_nd_t c5
  refine wcR ?_
  refine wA ?_
  refine wA ?_
  refine wl_nil ?_
  refine wc_ret ?_
  first
    | (have q_ := c5p
       have e_ : typs P sy (t.kids.take (i + 1)) p.2.fields = 210 := by rw [hss, typ1, if_pos c4p, if_neg (show ¬ _ = p.2.fields.getD i s0 from c5p)]
       have e2_ := typs_stop (P := P) (sy := sy) t.kids p.2.fields (i + 1) (by rw [e_]; decide)
       exact ⟨_, res2 rfl rfl rfl, by rw [typ_node c0p hp, if_pos (by omega), e2_, e_]; rfl, H18.pm (Pm.nil _)⟩)
    | (have q_ := c4p
       have e_ : typs P sy (t.kids.take (i + 1)) p.2.fields = (typ P sy (t.kids.getD i ac0)).2 := by rw [hss, typ1, if_neg c4p]
       have e2_ := typs_stop (P := P) (sy := sy) t.kids p.2.fields (i + 1) (by rw [e_]; exact c4p)
       exact ⟨_, res2 rfl rfl rfl, by rw [typ_node c0p hp, if_pos (by omega), e2_, e_, if_neg c4p]; rfl, H18.pm (Pm.nil _)⟩)
    | (have q_ := c3p
       rw [List.take_of_length_le (by omega)] at hty
       exact ⟨_, res2 rfl rfl rfl, by rw [typ_node c0p hp, if_pos (by omega), if_pos hty], H18.pm (Pm.nil _)⟩)
    | (have q_ := g29p
       exact ⟨_, res2 rfl rfl rfl, by rw [typ_node_no c0p (opt_none (hq4.symm.trans g29p))], H18.pm (Pm.nil _)⟩)
    | (have q_ := c1p
       have hfs : (fnd P t.x.name).isSome = true := hq4.symm.trans g29p
       obtain ⟨p, hp⟩ := Option.isSome_iff_exists.1 hfs
       have hqp := hq5 p hp
       exact ⟨_, res2 rfl rfl rfl, by rw [typ_node c0p hp, if_neg (by rw [← hqp]; omega)], H18.pm (Pm.nil _)⟩)
    | (have q_ := c8p
       exact ⟨_, res2 rfl rfl rfl, by rw [typ_pick c7p, if_pos (show sy.getD t.x.at_.toNat s0 = s0 from c8p)], H18.pm (Pm.nil _)⟩)
    | (have q_ := c8p
       exact ⟨_, res2 rfl rfl rfl, by rw [typ_pick c7p, if_neg (show ¬ sy.getD t.x.at_.toNat s0 = s0 from c8p)]; rfl, H18.pm (Pm.nil _)⟩)
    | (have q_ := c7p
       exact absurd hn (by unfold nodeOk; omega))
    | exact ⟨_, res2 rfl rfl rfl, by rw [typ_text c9p], H18.pm (Pm.nil _)⟩
    | exact ⟨_, res2 rfl rfl rfl, by rw [typ_none c7p c0p c9p], H18.pm (Pm.nil _)⟩

theorem typed_calls {P : List (ByteArray × Ct)} : ∀ t : Ac, TypOk P t := Tr.ind fun x kids ih => fun w A B k kd bd b0 b1 b2 ns sy fC hds hsy hr hall hcn => typed_step (t := .mk x kids) hds hsy hr hall hcn ih
end Go.Proofs.Ytgdemplcpcacaaa.TypD
