/- Which rows of texts are kinds, or rules' names. -/
import Derived.Test.YtgdemplcpcacaaaProg
import Derived.Test.YtgdemplcpcacaaaK03
import Derived.Test.YtgdemplcpcacaaaK05
set_option linter.unusedVariables false
set_option linter.unusedSimpArgs false
/-! Which rows of texts are kinds, or rules' names. -/
namespace Go.Proofs.Ytgdemplcpcacaaa.KindsW
open Go Go.RowKit Go.Proofs.YtgdemplcpcacaaaFx Go.Proofs.Ytgdemplcpcacaaa.NameW
theorem en82 : Enters Try.prog 82 := enters Try.func82 (by kernel_rfl) rfl
theorem en95 : Enters Try.prog 95 := enters Try.func95 (by kernel_rfl) rfl
theorem fa145_0 : FieldAt Try.prog 145 0 0 := field_at (sz := 0) Try.underlying145 rfl (by kernel_rfl) rfl
theorem fa145_1 : FieldAt Try.prog 145 1 1 := field_at (sz := 0) Try.underlying145 rfl (by kernel_rfl) rfl
theorem mixed : Try.prog.follows .mixedOrders = true := by kernel_rfl
theorem one3 : One Try.prog 3 := one_of Try.underlying3 rfl (by kernel_rfl)
theorem one9 : One Try.prog 9 := one_of Try.underlying9 rfl (by kernel_rfl)
theorem sz145 : ∀ W, (sizeOf 145).run Try.prog W = .ok 2 W := size_of (by kernel_rfl)
theorem sz9 : ∀ W, (sizeOf 9).run Try.prog W = .ok 1 W := size_of (by kernel_rfl)
theorem zv4 : ∀ W, (zeroValue 4).run Try.prog W = .ok (.bool false) W := zero_of (by kernel_rfl)

noncomputable abbrev KS : KeyK Try.prog 9 ByteArray := keyStr Try.underlying9

set_option maxHeartbeats 1600000 in
set_option maxRecDepth 100000 in
theorem kinds_calls {A : Option Addr} {c : Nat} {l : List ByteArray} {w : World} (hr : Rd kStr w A l) (hl : l.length ≤ 1099511627776) (hs : ∀ s ∈ l, s.size ≤ 1099511627776) :
    Calls Try.prog 60 #[.slice A l.length c] w fun e w' => ∃ v, e = .returned v ∧ v = .int .i64 (if dec (KindsOk l) then 0 else 70) ∧ Holds w [] w' := by
  refine calls_of Try.func60 rfl Try.ntmps60 rfl ?_
  have H := Holds.start w
  refine wcR ?_
  refine wA ?_
  refine wl_nil ?_
  refine wc_seq ?_
  refine wcR ?_
  refine wM ?_
  refine wV (v_len Try.underlying40 rfl) ?_
  refine wV (v_lss rfl rfl) ?_
  refine wM ?_
  refine wl_guard rfl rfl rfl (fun g9 => ?_) (fun g9 => ?_)
  rotate_left
  ·have g9p := oT g9
   refine wF g9 ?_
   refine wF g9 ?_
   refine wV (v_pick_t rfl g9 rfl) ?_
   refine wM ?_
   refine wF rfl ?_
   refine wF rfl ?_
   refine wF rfl ?_
   refine wF rfl ?_
   refine wV (v_pick_t rfl rfl rfl) ?_
   refine wM ?_
   refine wF rfl ?_
   refine wF rfl ?_
   refine wF rfl ?_
   refine wF rfl ?_
   refine wV (v_pick_t rfl rfl rfl) ?_
   refine wl_nil ?_
   refine wc_cond_t rfl ?_
   refine wcR ?_
   refine wA ?_
   refine wl_nil ?_
   refine wc_ret ?_
   first
     | exact ⟨_, res1 rfl rfl, by rw [dec_f fun hh => of_ndec g36p (hh.2 i (by omega)).1]; rfl, H.pm (Pm.nil _)⟩
     | exact ⟨_, res1 rfl rfl, by rw [dec_f fun hh => (dist_iff (by omega)).1 (hh.2 i (by omega)).2 (of_dec c2)]; rfl, H.pm (Pm.nil _)⟩
     | exact ⟨_, res1 rfl rfl, by rw [dec_t ⟨by assumption, fun j hj => ha j (by omega)⟩]; rfl, H.pm (Pm.nil _)⟩
     | exact ⟨_, res1 rfl rfl, by rw [dec_f fun hh => by obtain ⟨⟨h1, h2, h3, h4⟩, _⟩ := hh; first | omega | exact absurd h3 (by assumption) | exact absurd h4 (by assumption)]; rfl, H.pm (Pm.nil _)⟩
  have g9p := oF g9
  refine wM ?_
  refine wO g9 ?_
  refine wV (v_len Try.underlying40 rfl) ?_
  refine wO g9 ?_
  refine wV (v_gtr rfl rfl) ?_
  refine wV (v_pick_f rfl g9 rfl) ?_
  refine wM ?_
  refine wl_guard rfl rfl rfl (fun g14 => ?_) (fun g14 => ?_)
  rotate_left
  ·have g14p := oT g14
   refine wF g14 ?_
   refine wF g14 ?_
   refine wF g14 ?_
   refine wV (v_pick_t rfl g14 rfl) ?_
   refine wM ?_
   refine wF rfl ?_
   refine wF rfl ?_
   refine wF rfl ?_
   refine wF rfl ?_
   refine wV (v_pick_t rfl rfl rfl) ?_
   refine wl_nil ?_
   refine wc_cond_t rfl ?_
   refine wcR ?_
   refine wA ?_
   refine wl_nil ?_
   refine wc_ret ?_
   first
     | exact ⟨_, res1 rfl rfl, by rw [dec_f fun hh => of_ndec g36p (hh.2 i (by omega)).1]; rfl, H.pm (Pm.nil _)⟩
     | exact ⟨_, res1 rfl rfl, by rw [dec_f fun hh => (dist_iff (by omega)).1 (hh.2 i (by omega)).2 (of_dec c2)]; rfl, H.pm (Pm.nil _)⟩
     | exact ⟨_, res1 rfl rfl, by rw [dec_t ⟨by assumption, fun j hj => ha j (by omega)⟩]; rfl, H.pm (Pm.nil _)⟩
     | exact ⟨_, res1 rfl rfl, by rw [dec_f fun hh => by obtain ⟨⟨h1, h2, h3, h4⟩, _⟩ := hh; first | omega | exact absurd h3 (by assumption) | exact absurd h4 (by assumption)]; rfl, H.pm (Pm.nil _)⟩
  have g14p := oF g14
  refine wM ?_
  refine wO g14 ?_
  refine wV (v_idx Try.underlying40 sz9 hr.ad rfl rfl (by omega) (by omega)) ?_
  refine wO g14 ?_
  refine wV (v_load one9 rfl (H.cell (hr.at1sN (i := 0) (by omega)))) ?_
  refine wO g14 ?_
  refine wV (v_neqs rfl rfl) ?_
  refine wV (v_pick_f rfl g14 rfl) ?_
  refine wM ?_
  refine wl_guard rfl rfl rfl (fun g20 => ?_) (fun g20 => ?_)
  rotate_left
  ·have g20p := of_nd_t g20
   refine wF g20 ?_
   refine wF g20 ?_
   refine wF g20 ?_
   refine wV (v_pick_t rfl g20 rfl) ?_
   refine wl_nil ?_
   refine wc_cond_t rfl ?_
   refine wcR ?_
   refine wA ?_
   refine wl_nil ?_
   refine wc_ret ?_
   first
     | exact ⟨_, res1 rfl rfl, by rw [dec_f fun hh => of_ndec g36p (hh.2 i (by omega)).1]; rfl, H.pm (Pm.nil _)⟩
     | exact ⟨_, res1 rfl rfl, by rw [dec_f fun hh => (dist_iff (by omega)).1 (hh.2 i (by omega)).2 (of_dec c2)]; rfl, H.pm (Pm.nil _)⟩
     | exact ⟨_, res1 rfl rfl, by rw [dec_t ⟨by assumption, fun j hj => ha j (by omega)⟩]; rfl, H.pm (Pm.nil _)⟩
     | exact ⟨_, res1 rfl rfl, by rw [dec_f fun hh => by obtain ⟨⟨h1, h2, h3, h4⟩, _⟩ := hh; first | omega | exact absurd h3 (by assumption) | exact absurd h4 (by assumption)]; rfl, H.pm (Pm.nil _)⟩
  have g20p := of_nd_f g20
  refine wM ?_
  refine wO g20 ?_
  refine wV (v_idx Try.underlying40 sz9 hr.ad rfl rfl (by omega) (by omega)) ?_
  refine wO g20 ?_
  refine wV (v_load one9 rfl (H.cell (hr.at1sN (i := 1) (by omega)))) ?_
  refine wO g20 ?_
  refine wV (v_neqs rfl rfl) ?_
  refine wV (v_pick_f rfl g20 rfl) ?_
  refine wl_nil ?_
  refine wc_cond rfl (fun c0 => ?_) (fun c0 => ?_)
  ·have c0p := of_nd_t c0
   refine wcR ?_
   refine wA ?_
   refine wl_nil ?_
   refine wc_ret ?_
   first
     | exact ⟨_, res1 rfl rfl, by rw [dec_f fun hh => of_ndec g36p (hh.2 i (by omega)).1]; rfl, H.pm (Pm.nil _)⟩
     | exact ⟨_, res1 rfl rfl, by rw [dec_f fun hh => (dist_iff (by omega)).1 (hh.2 i (by omega)).2 (of_dec c2)]; rfl, H.pm (Pm.nil _)⟩
     | exact ⟨_, res1 rfl rfl, by rw [dec_t ⟨by assumption, fun j hj => ha j (by omega)⟩]; rfl, H.pm (Pm.nil _)⟩
     | exact ⟨_, res1 rfl rfl, by rw [dec_f fun hh => by obtain ⟨⟨h1, h2, h3, h4⟩, _⟩ := hh; first | omega | exact absurd h3 (by assumption) | exact absurd h4 (by assumption)]; rfl, H.pm (Pm.nil _)⟩
  have c0p := of_nd_f c0
  have hfirst : 2 ≤ l.length ∧ l.length ≤ 1024 ∧ l.getD 0 ByteArray.empty = ⟨#[101, 110, 100]⟩ ∧ l.getD 1 ByteArray.empty = ⟨#[101, 114, 114, 111, 114]⟩ := ⟨by omega, by omega, by assumption, by assumption⟩
  refine wc_skip ?_
  refine wcR ?_
  refine wl_mkmap KS Value.bool H rfl ?_
  intro bm w1 hbm H1
  refine wA ?_
  refine wl_nil ?_
  refine wc_seq ?_
  refine wcR ?_
  refine wM ?_
  refine wV (v_len Try.underlying40 rfl) ?_
  refine wM ?_
  refine wl_nil ?_
  refine wc_block ?_
  refine wc_loop (σ := Nat) (fun s => [(0, .slice A l.length c), (3, .map (some bm)), (27, .slice A l.length c), (28, .int .i64 l.length), (29, .int .i64 s)]) (fun s W => s ≤ l.length ∧ (∀ j, j < s → NameOk 64 (l.getD j ByteArray.empty) ∧ Dist l j) ∧ Holds w [Mp KS Value.bool bm s (metF (l.take s))] W) (fun s => l.length - s) 0 (sc rfl (sc rfl (sc rfl (sc rfl (sc rfl (sn _)))))) ⟨Nat.zero_le _, upto_zero, by rw [metF_nil] at H1; exact H1⟩ ?_
  rintro i W0 ⟨hi, ha, H⟩
  refine wcR ?_
  refine wV (v_lss rfl rfl) ?_
  refine wl_nil ?_
  refine wc_seq ?_
  refine wc_cond rfl (fun c1 => ?_) (fun c1 => ?_)
  rotate_left
  ·have c1p := oF c1
   refine wc_exit ?_
   refine wcR ?_
   refine wA ?_
   refine wl_nil ?_
   refine wc_ret ?_
   first
     | exact ⟨_, res1 rfl rfl, by rw [dec_f fun hh => of_ndec g36p (hh.2 i (by omega)).1]; rfl, H.pm (Pm.nil _)⟩
     | exact ⟨_, res1 rfl rfl, by rw [dec_f fun hh => (dist_iff (by omega)).1 (hh.2 i (by omega)).2 (of_dec c2)]; rfl, H.pm (Pm.nil _)⟩
     | exact ⟨_, res1 rfl rfl, by rw [dec_t ⟨by assumption, fun j hj => ha j (by omega)⟩]; rfl, H.pm (Pm.nil _)⟩
     | exact ⟨_, res1 rfl rfl, by rw [dec_f fun hh => by obtain ⟨⟨h1, h2, h3, h4⟩, _⟩ := hh; first | omega | exact absurd h3 (by assumption) | exact absurd h4 (by assumption)]; rfl, H.pm (Pm.nil _)⟩
  have c1p := oT c1
  refine wc_skip ?_
  refine wc_seq ?_
  refine wc_block ?_
  refine wcR ?_
  refine wV (v_idx Try.underlying40 sz9 hr.ad rfl rfl (by omega) (by omega)) ?_
  refine wV (v_load one9 rfl (H.cell (hr.at1sN (i := i) (by omega)))) ?_
  refine wA ?_
  refine wl_nil ?_
  refine wc_seq ?_
  refine wcR ?_
  refine wM ?_
  refine wl_call en82 rfl rfl (named_calls (hs _ (getD_mem (z := ByteArray.empty) (show i < l.length by omega)))) ?_
  rintro _ w2 ⟨rfl, Hc⟩
  have H3 := H.call0 Hc
  refine wV (v_not rfl) ?_
  refine wM ?_
  refine wl_guard rfl rfl rfl (fun g36 => ?_) (fun g36 => ?_)
  rotate_left
  ·have g36p := of_n_t g36
   refine wF g36 ?_
   refine wF g36 ?_
   refine wV (v_pick_t rfl g36 rfl) ?_
   refine wl_nil ?_
   refine wc_cond_t rfl ?_
   refine wcR ?_
   refine wA ?_
   refine wl_nil ?_
   refine wc_ret ?_
   first
     | exact ⟨_, res1 rfl rfl, by rw [dec_f fun hh => of_ndec g36p (hh.2 i (by omega)).1]; rfl, H3.pm (Pm.nil _)⟩
     | exact ⟨_, res1 rfl rfl, by rw [dec_f fun hh => (dist_iff (by omega)).1 (hh.2 i (by omega)).2 (of_dec c2)]; rfl, H3.pm (Pm.nil _)⟩
     | exact ⟨_, res1 rfl rfl, by rw [dec_t ⟨by assumption, fun j hj => ha j (by omega)⟩]; rfl, H3.pm (Pm.nil _)⟩
     | exact ⟨_, res1 rfl rfl, by rw [dec_f fun hh => by obtain ⟨⟨h1, h2, h3, h4⟩, _⟩ := hh; first | omega | exact absurd h3 (by assumption) | exact absurd h4 (by assumption)]; rfl, H3.pm (Pm.nil _)⟩
  have g36p := of_n_f g36
  refine wM ?_
  refine wO g36 ?_
  refine wM ?_
  refine wO g36 ?_
  refine wV (v_look' H3 (by repeat constructor) Try.underlying122 zv4 (show KS.ok (l.getD i ByteArray.empty) from Nat.le_trans (hs _ (getD_mem (z := ByteArray.empty) (show i < l.length by omega))) (by decide)) rfl rfl (metF_get _ _)) ?_
  refine wV (v_pick_f rfl g36 rfl) ?_
  refine wl_nil ?_
  refine wc_cond rfl (fun c2 => ?_) (fun c2 => ?_)
  ·refine wcR ?_
   refine wA ?_
   refine wl_nil ?_
   refine wc_ret ?_
   first
     | exact ⟨_, res1 rfl rfl, by rw [dec_f fun hh => of_ndec g36p (hh.2 i (by omega)).1]; rfl, H3.pm (Pm.nil _)⟩
     | exact ⟨_, res1 rfl rfl, by rw [dec_f fun hh => (dist_iff (by omega)).1 (hh.2 i (by omega)).2 (of_dec c2)]; rfl, H3.pm (Pm.nil _)⟩
     | exact ⟨_, res1 rfl rfl, by rw [dec_t ⟨by assumption, fun j hj => ha j (by omega)⟩]; rfl, H3.pm (Pm.nil _)⟩
     | exact ⟨_, res1 rfl rfl, by rw [dec_f fun hh => by obtain ⟨⟨h1, h2, h3, h4⟩, _⟩ := hh; first | omega | exact absurd h3 (by assumption) | exact absurd h4 (by assumption)]; rfl, H3.pm (Pm.nil _)⟩
  refine wc_skip ?_
  refine wc_region ?_
  refine wM ?_
  refine wM ?_
  refine wl_mapset H3 (by repeat constructor) Try.underlying122 (show KS.ok (l.getD i ByteArray.empty) from Nat.le_trans (hs _ (getD_mem (z := ByteArray.empty) (show i < l.length by omega))) (by decide)) (by unfold maxLen; omega) rfl rfl rfl ?_
  intro w5 H5
  refine wl_nil ?_
  refine wc_region ?_
  refine wV (v_addi rfl rfl (by omega)) ?_
  refine wM ?_
  refine wl_nil ?_
  exact ⟨i + 1, (sc rfl (sc rfl (sc rfl (sc rfl (sc rfl (sn _)))))), ⟨by omega, upto_succ ha ⟨of_dec g36p, (dist_iff (by omega)).2 (of_ndec c2)⟩, by rw [metF_succ (by omega)] at H5; exact H5.pm (by repeat constructor)⟩, by omega⟩

set_option maxHeartbeats 1600000 in
set_option maxRecDepth 100000 in
theorem rkinds_calls {A : Option Addr} {c : Nat} {l : List ByteArray} {w : World} (hr : Rd kStr w A l) (hl : l.length ≤ 1099511627776) (hs : ∀ s ∈ l, s.size ≤ 1099511627776) :
    Calls Try.prog 84 #[.slice A l.length c] w fun e w' => ∃ v, e = .returned v ∧ v = .bool (dec (KindsOk l)) ∧ Holds w [] w' := by
  refine calls_of Try.func84 rfl Try.ntmps84 rfl ?_
  have H := Holds.start w
  refine wcR ?_
  refine wA ?_
  refine wl_nil ?_
  refine wc_seq ?_
  refine wcR ?_
  refine wM ?_
  refine wV (v_len Try.underlying40 rfl) ?_
  refine wV (v_lss rfl rfl) ?_
  refine wM ?_
  refine wl_guard rfl rfl rfl (fun g8 => ?_) (fun g8 => ?_)
  rotate_left
  ·have g8p := oT g8
   refine wF g8 ?_
   refine wF g8 ?_
   refine wV (v_pick_t rfl g8 rfl) ?_
   refine wM ?_
   refine wF rfl ?_
   refine wF rfl ?_
   refine wF rfl ?_
   refine wF rfl ?_
   refine wV (v_pick_t rfl rfl rfl) ?_
   refine wM ?_
   refine wF rfl ?_
   refine wF rfl ?_
   refine wF rfl ?_
   refine wF rfl ?_
   refine wV (v_pick_t rfl rfl rfl) ?_
   refine wl_nil ?_
   refine wc_cond_t rfl ?_
   refine wcR ?_
   refine wA ?_
   refine wl_nil ?_
   refine wc_ret ?_
   first
     | (have q_ := c2p
        exact ⟨_, res1 rfl rfl, congrArg Value.bool (dec_f fun hh => of_ndec c2p (hh.2 i (by omega)).1).symm, H.pm (Pm.nil _)⟩)
     | (have q_ := c4p
        exact ⟨_, res1 rfl rfl, congrArg Value.bool (dec_f fun hh => (hh.2 i (by omega)).2 k (by omega) c4p).symm, H.pm (Pm.nil _)⟩)
     | (have q_ := ha
        exact ⟨_, res1 rfl rfl, congrArg Value.bool (dec_t ⟨by assumption, fun j hj => ha j (by omega)⟩).symm, H.pm (Pm.nil _)⟩)
     | exact ⟨_, res1 rfl rfl, congrArg Value.bool (dec_f fun hh => by obtain ⟨⟨h1, h2, h3, h4⟩, _⟩ := hh; first | omega | exact absurd h3 (by assumption) | exact absurd h4 (by assumption)).symm, H.pm (Pm.nil _)⟩
  have g8p := oF g8
  refine wM ?_
  refine wO g8 ?_
  refine wV (v_len Try.underlying40 rfl) ?_
  refine wO g8 ?_
  refine wV (v_gtr rfl rfl) ?_
  refine wV (v_pick_f rfl g8 rfl) ?_
  refine wM ?_
  refine wl_guard rfl rfl rfl (fun g13 => ?_) (fun g13 => ?_)
  rotate_left
  ·have g13p := oT g13
   refine wF g13 ?_
   refine wF g13 ?_
   refine wF g13 ?_
   refine wV (v_pick_t rfl g13 rfl) ?_
   refine wM ?_
   refine wF rfl ?_
   refine wF rfl ?_
   refine wF rfl ?_
   refine wF rfl ?_
   refine wV (v_pick_t rfl rfl rfl) ?_
   refine wl_nil ?_
   refine wc_cond_t rfl ?_
   refine wcR ?_
   refine wA ?_
   refine wl_nil ?_
   refine wc_ret ?_
   first
     | (have q_ := c2p
        exact ⟨_, res1 rfl rfl, congrArg Value.bool (dec_f fun hh => of_ndec c2p (hh.2 i (by omega)).1).symm, H.pm (Pm.nil _)⟩)
     | (have q_ := c4p
        exact ⟨_, res1 rfl rfl, congrArg Value.bool (dec_f fun hh => (hh.2 i (by omega)).2 k (by omega) c4p).symm, H.pm (Pm.nil _)⟩)
     | (have q_ := ha
        exact ⟨_, res1 rfl rfl, congrArg Value.bool (dec_t ⟨by assumption, fun j hj => ha j (by omega)⟩).symm, H.pm (Pm.nil _)⟩)
     | exact ⟨_, res1 rfl rfl, congrArg Value.bool (dec_f fun hh => by obtain ⟨⟨h1, h2, h3, h4⟩, _⟩ := hh; first | omega | exact absurd h3 (by assumption) | exact absurd h4 (by assumption)).symm, H.pm (Pm.nil _)⟩
  have g13p := oF g13
  refine wM ?_
  refine wO g13 ?_
  refine wV (v_idx Try.underlying40 sz9 hr.ad rfl rfl (by omega) (by omega)) ?_
  refine wO g13 ?_
  refine wV (v_load one9 rfl (H.cell (hr.at1sN (i := 0) (by omega)))) ?_
  refine wO g13 ?_
  refine wV (v_neqs rfl rfl) ?_
  refine wV (v_pick_f rfl g13 rfl) ?_
  refine wM ?_
  refine wl_guard rfl rfl rfl (fun g19 => ?_) (fun g19 => ?_)
  rotate_left
  ·have g19p := of_nd_t g19
   refine wF g19 ?_
   refine wF g19 ?_
   refine wF g19 ?_
   refine wV (v_pick_t rfl g19 rfl) ?_
   refine wl_nil ?_
   refine wc_cond_t rfl ?_
   refine wcR ?_
   refine wA ?_
   refine wl_nil ?_
   refine wc_ret ?_
   first
     | (have q_ := c2p
        exact ⟨_, res1 rfl rfl, congrArg Value.bool (dec_f fun hh => of_ndec c2p (hh.2 i (by omega)).1).symm, H.pm (Pm.nil _)⟩)
     | (have q_ := c4p
        exact ⟨_, res1 rfl rfl, congrArg Value.bool (dec_f fun hh => (hh.2 i (by omega)).2 k (by omega) c4p).symm, H.pm (Pm.nil _)⟩)
     | (have q_ := ha
        exact ⟨_, res1 rfl rfl, congrArg Value.bool (dec_t ⟨by assumption, fun j hj => ha j (by omega)⟩).symm, H.pm (Pm.nil _)⟩)
     | exact ⟨_, res1 rfl rfl, congrArg Value.bool (dec_f fun hh => by obtain ⟨⟨h1, h2, h3, h4⟩, _⟩ := hh; first | omega | exact absurd h3 (by assumption) | exact absurd h4 (by assumption)).symm, H.pm (Pm.nil _)⟩
  have g19p := of_nd_f g19
  refine wM ?_
  refine wO g19 ?_
  refine wV (v_idx Try.underlying40 sz9 hr.ad rfl rfl (by omega) (by omega)) ?_
  refine wO g19 ?_
  refine wV (v_load one9 rfl (H.cell (hr.at1sN (i := 1) (by omega)))) ?_
  refine wO g19 ?_
  refine wV (v_neqs rfl rfl) ?_
  refine wV (v_pick_f rfl g19 rfl) ?_
  refine wl_nil ?_
  refine wc_cond rfl (fun c0 => ?_) (fun c0 => ?_)
  ·have c0p := of_nd_t c0
   refine wcR ?_
   refine wA ?_
   refine wl_nil ?_
   refine wc_ret ?_
   first
     | (have q_ := c2p
        exact ⟨_, res1 rfl rfl, congrArg Value.bool (dec_f fun hh => of_ndec c2p (hh.2 i (by omega)).1).symm, H.pm (Pm.nil _)⟩)
     | (have q_ := c4p
        exact ⟨_, res1 rfl rfl, congrArg Value.bool (dec_f fun hh => (hh.2 i (by omega)).2 k (by omega) c4p).symm, H.pm (Pm.nil _)⟩)
     | (have q_ := ha
        exact ⟨_, res1 rfl rfl, congrArg Value.bool (dec_t ⟨by assumption, fun j hj => ha j (by omega)⟩).symm, H.pm (Pm.nil _)⟩)
     | exact ⟨_, res1 rfl rfl, congrArg Value.bool (dec_f fun hh => by obtain ⟨⟨h1, h2, h3, h4⟩, _⟩ := hh; first | omega | exact absurd h3 (by assumption) | exact absurd h4 (by assumption)).symm, H.pm (Pm.nil _)⟩
  have c0p := of_nd_f c0
  have hfirst : 2 ≤ l.length ∧ l.length ≤ 1024 ∧ l.getD 0 ByteArray.empty = ⟨#[101, 110, 100]⟩ ∧ l.getD 1 ByteArray.empty = ⟨#[101, 114, 114, 111, 114]⟩ := ⟨by omega, by omega, by assumption, by assumption⟩
  refine wc_skip ?_
  refine wc_seq ?_
  refine wcR ?_
  refine wA ?_
  refine wl_nil ?_
  refine wc_block ?_
  refine wc_loop (σ := Nat) (fun s => [(0, .slice A l.length c), (3, .int .i64 s)]) (fun s W => s ≤ l.length ∧ (∀ j, j < s → NameOk 64 (l.getD j ByteArray.empty) ∧ Dist l j) ∧ Holds w [] W) (fun s => l.length - s) 0 (sc rfl (sc rfl (sn _))) ⟨Nat.zero_le _, upto_zero, H⟩ ?_
  rintro i W0 ⟨hi, ha, H⟩
  refine wc_seq ?_
  refine wcR ?_
  refine wM ?_
  refine wM ?_
  refine wV (v_len Try.underlying40 rfl) ?_
  refine wV (v_lss rfl rfl) ?_
  refine wl_nil ?_
  refine wc_cond rfl (fun c1 => ?_) (fun c1 => ?_)
  rotate_left
  ·have c1p := oF c1
   refine wc_exit ?_
   refine wcR ?_
   refine wA ?_
   refine wl_nil ?_
   refine wc_ret ?_
   first
     | (have q_ := c2p
        exact ⟨_, res1 rfl rfl, congrArg Value.bool (dec_f fun hh => of_ndec c2p (hh.2 i (by omega)).1).symm, H.pm (Pm.nil _)⟩)
     | (have q_ := c4p
        exact ⟨_, res1 rfl rfl, congrArg Value.bool (dec_f fun hh => (hh.2 i (by omega)).2 k (by omega) c4p).symm, H.pm (Pm.nil _)⟩)
     | (have q_ := ha
        exact ⟨_, res1 rfl rfl, congrArg Value.bool (dec_t ⟨by assumption, fun j hj => ha j (by omega)⟩).symm, H.pm (Pm.nil _)⟩)
     | exact ⟨_, res1 rfl rfl, congrArg Value.bool (dec_f fun hh => by obtain ⟨⟨h1, h2, h3, h4⟩, _⟩ := hh; first | omega | exact absurd h3 (by assumption) | exact absurd h4 (by assumption)).symm, H.pm (Pm.nil _)⟩
  have c1p := oT c1
  refine wc_skip ?_
  refine wc_seq ?_
  refine wc_block ?_
  refine wc_seq ?_
  refine wcR ?_
  refine wM ?_
  refine wM ?_
  refine wV (v_idx Try.underlying40 sz9 hr.ad rfl rfl (by omega) (by omega)) ?_
  refine wV (v_load one9 rfl (H.cell (hr.at1sN (i := i) (by omega)))) ?_
  refine wl_call en95 rfl rfl (rname_calls (hs _ (getD_mem (z := ByteArray.empty) (show i < l.length by omega)))) ?_
  rintro _ w1 ⟨rfl, Hc⟩
  have H2 := H.call0 Hc
  refine wV (v_not rfl) ?_
  refine wl_nil ?_
  refine wc_cond rfl (fun c2 => ?_) (fun c2 => ?_)
  ·have c2p := of_n_t c2
   refine wcR ?_
   refine wA ?_
   refine wl_nil ?_
   refine wc_ret ?_
   first
     | (have q_ := c2p
        exact ⟨_, res1 rfl rfl, congrArg Value.bool (dec_f fun hh => of_ndec c2p (hh.2 i (by omega)).1).symm, H2.pm (Pm.nil _)⟩)
     | (have q_ := c4p
        exact ⟨_, res1 rfl rfl, congrArg Value.bool (dec_f fun hh => (hh.2 i (by omega)).2 k (by omega) c4p).symm, H2.pm (Pm.nil _)⟩)
     | (have q_ := ha
        exact ⟨_, res1 rfl rfl, congrArg Value.bool (dec_t ⟨by assumption, fun j hj => ha j (by omega)⟩).symm, H2.pm (Pm.nil _)⟩)
     | exact ⟨_, res1 rfl rfl, congrArg Value.bool (dec_f fun hh => by obtain ⟨⟨h1, h2, h3, h4⟩, _⟩ := hh; first | omega | exact absurd h3 (by assumption) | exact absurd h4 (by assumption)).symm, H2.pm (Pm.nil _)⟩
  have c2p := of_n_f c2
  refine wc_skip ?_
  refine wcR ?_
  refine wA ?_
  refine wl_nil ?_
  refine wc_block ?_
  refine wc_loop (σ := Nat) (fun s => [(0, .slice A l.length c), (3, .int .i64 i), (4, .int .i64 s)]) (fun s W => s ≤ i ∧ (∀ k, k < s → (l.getD k ByteArray.empty) ≠ (l.getD i ByteArray.empty)) ∧ Holds w [] W) (fun s => i - s) 0 (sc rfl (sc rfl (sc rfl (sn _)))) ⟨Nat.zero_le _, upto_zero, H2⟩ ?_
  rintro k W1 ⟨hk, hd, H⟩
  refine wc_seq ?_
  refine wcR ?_
  refine wM ?_
  refine wM ?_
  refine wV (v_lss rfl rfl) ?_
  refine wl_nil ?_
  refine wc_cond rfl (fun c3 => ?_) (fun c3 => ?_)
  rotate_left
  ·have c3p := oF c3
   refine wc_exit ?_
   refine wc_region ?_
   refine wM ?_
   refine wV (v_addi rfl rfl (by omega)) ?_
   refine wA ?_
   refine wl_nil ?_
   exact ⟨i + 1, (sc rfl (sc rfl (sn _))), ⟨by omega, upto_succ ha ⟨of_dec c2p, fun j hj => hd j (by omega)⟩, H.pm (by repeat constructor)⟩, by omega⟩
  have c3p := oT c3
  refine wc_skip ?_
  refine wc_seq ?_
  refine wc_block ?_
  refine wc_seq ?_
  refine wc_still mixed (by kernel_rfl) ?_
  have Hd := H.drew
  refine ws_v rfl rfl rfl (v_move rfl) ?_
  refine ws_v rfl rfl rfl (v_move rfl) ?_
  refine ws_v rfl rfl rfl (v_idx Try.underlying40 sz9 hr.ad rfl rfl (by omega) (by omega)) ?_
  refine ws_v rfl rfl rfl (v_load one9 rfl (Hd.cell (hr.at1sN (i := k) (by omega)))) ?_
  refine ws_v rfl rfl rfl (v_move rfl) ?_
  refine ws_v rfl rfl rfl (v_move rfl) ?_
  refine ws_v rfl rfl rfl (v_idx Try.underlying40 sz9 hr.ad rfl rfl (by omega) (by omega)) ?_
  refine ws_v rfl rfl rfl (v_load one9 rfl (Hd.cell (hr.at1sN (i := i) (by omega)))) ?_
  refine ws_v rfl rfl rfl (v_eqls rfl rfl) ?_
  refine ws_nil ?_
  refine wc_cond rfl (fun c4 => ?_) (fun c4 => ?_)
  rotate_left
  ·have c4p := oF c4
   refine wc_skip ?_
   refine wc_region ?_
   refine wM ?_
   refine wV (v_addi rfl rfl (by omega)) ?_
   refine wA ?_
   refine wl_nil ?_
   exact ⟨k + 1, (sc rfl (sc rfl (sc rfl (sn _)))), ⟨by omega, upto_succ hd c4p, Hd.pm (by repeat constructor)⟩, by omega⟩
  have c4p := oT c4
  refine wcR ?_
  refine wA ?_
  refine wl_nil ?_
  refine wc_ret ?_
  first
    | (have q_ := c2p
       exact ⟨_, res1 rfl rfl, congrArg Value.bool (dec_f fun hh => of_ndec c2p (hh.2 i (by omega)).1).symm, Hd.pm (Pm.nil _)⟩)
    | (have q_ := c4p
       exact ⟨_, res1 rfl rfl, congrArg Value.bool (dec_f fun hh => (hh.2 i (by omega)).2 k (by omega) c4p).symm, Hd.pm (Pm.nil _)⟩)
    | (have q_ := ha
       exact ⟨_, res1 rfl rfl, congrArg Value.bool (dec_t ⟨by assumption, fun j hj => ha j (by omega)⟩).symm, Hd.pm (Pm.nil _)⟩)
    | exact ⟨_, res1 rfl rfl, congrArg Value.bool (dec_f fun hh => by obtain ⟨⟨h1, h2, h3, h4⟩, _⟩ := hh; first | omega | exact absurd h3 (by assumption) | exact absurd h4 (by assumption)).symm, Hd.pm (Pm.nil _)⟩

set_option maxHeartbeats 1600000 in
set_option maxRecDepth 100000 in
theorem rnames_calls {A : Option Addr} {c : Nat} {l : List ByteArray} {w : World} (hr : Rd kStr w A l) (hl : l.length ≤ 1099511627776) :
    Calls Try.prog 86 #[.slice A l.length c] w fun e w' => ∃ v, e = .returned v ∧ v = .bool (dec (RulesOk l)) ∧ Holds w [] w' := by
  refine calls_of Try.func86 rfl Try.ntmps86 rfl ?_
  have H := Holds.start w
  refine wcR ?_
  refine wA ?_
  refine wl_nil ?_
  refine wc_seq ?_
  refine wcR ?_
  refine wM ?_
  refine wV (v_len Try.underlying40 rfl) ?_
  refine wV (v_lss rfl rfl) ?_
  refine wM ?_
  refine wl_guard rfl rfl rfl (fun g8 => ?_) (fun g8 => ?_)
  rotate_left
  ·have g8p := oT g8
   refine wF g8 ?_
   refine wF g8 ?_
   refine wV (v_pick_t rfl g8 rfl) ?_
   refine wl_nil ?_
   refine wc_cond_t rfl ?_
   refine wcR ?_
   refine wA ?_
   refine wl_nil ?_
   refine wc_ret ?_
   first
     | (have q_ := c4p
        exact ⟨_, res1 rfl rfl, congrArg Value.bool (dec_f fun hh => (hh.2 i (by omega)).2 k (by omega) c4p).symm, H.pm (Pm.nil _)⟩)
     | (have q_ := hi
        exact ⟨_, res1 rfl rfl, congrArg Value.bool (dec_f fun hh => by have := (hh.2 i (by omega)).1; omega).symm, H.pm (Pm.nil _)⟩)
     | (have q_ := ha
        exact ⟨_, res1 rfl rfl, congrArg Value.bool (dec_t ⟨⟨by omega, by omega⟩, fun j hj => ha j (by omega)⟩).symm, H.pm (Pm.nil _)⟩)
     | exact ⟨_, res1 rfl rfl, congrArg Value.bool (dec_f fun hh => by obtain ⟨⟨h1, h2⟩, _⟩ := hh; omega).symm, H.pm (Pm.nil _)⟩
  have g8p := oF g8
  refine wM ?_
  refine wO g8 ?_
  refine wV (v_len Try.underlying40 rfl) ?_
  refine wO g8 ?_
  refine wV (v_gtr rfl rfl) ?_
  refine wV (v_pick_f rfl g8 rfl) ?_
  refine wl_nil ?_
  refine wc_cond rfl (fun c0 => ?_) (fun c0 => ?_)
  ·have c0p := oT c0
   refine wcR ?_
   refine wA ?_
   refine wl_nil ?_
   refine wc_ret ?_
   first
     | (have q_ := c4p
        exact ⟨_, res1 rfl rfl, congrArg Value.bool (dec_f fun hh => (hh.2 i (by omega)).2 k (by omega) c4p).symm, H.pm (Pm.nil _)⟩)
     | (have q_ := hi
        exact ⟨_, res1 rfl rfl, congrArg Value.bool (dec_f fun hh => by have := (hh.2 i (by omega)).1; omega).symm, H.pm (Pm.nil _)⟩)
     | (have q_ := ha
        exact ⟨_, res1 rfl rfl, congrArg Value.bool (dec_t ⟨⟨by omega, by omega⟩, fun j hj => ha j (by omega)⟩).symm, H.pm (Pm.nil _)⟩)
     | exact ⟨_, res1 rfl rfl, congrArg Value.bool (dec_f fun hh => by obtain ⟨⟨h1, h2⟩, _⟩ := hh; omega).symm, H.pm (Pm.nil _)⟩
  have c0p := oF c0
  refine wc_skip ?_
  refine wc_seq ?_
  refine wcR ?_
  refine wA ?_
  refine wl_nil ?_
  refine wc_block ?_
  refine wc_loop (σ := Nat) (fun s => [(0, .slice A l.length c), (3, .int .i64 s)]) (fun s W => s ≤ l.length ∧ (∀ j, j < s → (1 ≤ ((l.getD j ByteArray.empty)).size ∧ ((l.getD j ByteArray.empty)).size ≤ 4096) ∧ Dist l j) ∧ Holds w [] W) (fun s => l.length - s) 0 (sc rfl (sc rfl (sn _))) ⟨Nat.zero_le _, upto_zero, H⟩ ?_
  rintro i W0 ⟨hi, ha, H⟩
  refine wc_seq ?_
  refine wcR ?_
  refine wM ?_
  refine wM ?_
  refine wV (v_len Try.underlying40 rfl) ?_
  refine wV (v_lss rfl rfl) ?_
  refine wl_nil ?_
  refine wc_cond rfl (fun c1 => ?_) (fun c1 => ?_)
  rotate_left
  ·have c1p := oF c1
   refine wc_exit ?_
   refine wcR ?_
   refine wA ?_
   refine wl_nil ?_
   refine wc_ret ?_
   first
     | (have q_ := c4p
        exact ⟨_, res1 rfl rfl, congrArg Value.bool (dec_f fun hh => (hh.2 i (by omega)).2 k (by omega) c4p).symm, H.pm (Pm.nil _)⟩)
     | (have q_ := hi
        exact ⟨_, res1 rfl rfl, congrArg Value.bool (dec_f fun hh => by have := (hh.2 i (by omega)).1; omega).symm, H.pm (Pm.nil _)⟩)
     | (have q_ := ha
        exact ⟨_, res1 rfl rfl, congrArg Value.bool (dec_t ⟨⟨by omega, by omega⟩, fun j hj => ha j (by omega)⟩).symm, H.pm (Pm.nil _)⟩)
     | exact ⟨_, res1 rfl rfl, congrArg Value.bool (dec_f fun hh => by obtain ⟨⟨h1, h2⟩, _⟩ := hh; omega).symm, H.pm (Pm.nil _)⟩
  have c1p := oT c1
  refine wc_skip ?_
  refine wc_seq ?_
  refine wc_block ?_
  refine wc_seq ?_
  refine wcR ?_
  refine wM ?_
  refine wM ?_
  refine wV (v_idx Try.underlying40 sz9 hr.ad rfl rfl (by omega) (by omega)) ?_
  refine wV (v_load one9 rfl (H.cell (hr.at1sN (i := i) (by omega)))) ?_
  refine wV (v_lens Try.underlying9 rfl) ?_
  refine wV (v_lss rfl rfl) ?_
  refine wM ?_
  refine wl_guard rfl rfl rfl (fun g25 => ?_) (fun g25 => ?_)
  rotate_left
  ·have g25p := oT g25
   refine wF g25 ?_
   refine wF g25 ?_
   refine wF g25 ?_
   refine wF g25 ?_
   refine wF g25 ?_
   refine wV (v_pick_t rfl g25 rfl) ?_
   refine wl_nil ?_
   refine wc_cond_t rfl ?_
   refine wcR ?_
   refine wA ?_
   refine wl_nil ?_
   refine wc_ret ?_
   first
     | (have q_ := c4p
        exact ⟨_, res1 rfl rfl, congrArg Value.bool (dec_f fun hh => (hh.2 i (by omega)).2 k (by omega) c4p).symm, H.pm (Pm.nil _)⟩)
     | (have q_ := hi
        exact ⟨_, res1 rfl rfl, congrArg Value.bool (dec_f fun hh => by have := (hh.2 i (by omega)).1; omega).symm, H.pm (Pm.nil _)⟩)
     | (have q_ := ha
        exact ⟨_, res1 rfl rfl, congrArg Value.bool (dec_t ⟨⟨by omega, by omega⟩, fun j hj => ha j (by omega)⟩).symm, H.pm (Pm.nil _)⟩)
     | exact ⟨_, res1 rfl rfl, congrArg Value.bool (dec_f fun hh => by obtain ⟨⟨h1, h2⟩, _⟩ := hh; omega).symm, H.pm (Pm.nil _)⟩
  have g25p := oF g25
  refine wM ?_
  refine wO g25 ?_
  refine wM ?_
  refine wO g25 ?_
  refine wV (v_idx Try.underlying40 sz9 hr.ad rfl rfl (by omega) (by omega)) ?_
  refine wO g25 ?_
  refine wV (v_load one9 rfl (H.cell (hr.at1sN (i := i) (by omega)))) ?_
  refine wO g25 ?_
  refine wV (v_lens Try.underlying9 rfl) ?_
  refine wO g25 ?_
  refine wV (v_gtr rfl rfl) ?_
  refine wV (v_pick_f rfl g25 rfl) ?_
  refine wl_nil ?_
  refine wc_cond rfl (fun c2 => ?_) (fun c2 => ?_)
  ·have c2p := oT c2
   refine wcR ?_
   refine wA ?_
   refine wl_nil ?_
   refine wc_ret ?_
   first
     | (have q_ := c4p
        exact ⟨_, res1 rfl rfl, congrArg Value.bool (dec_f fun hh => (hh.2 i (by omega)).2 k (by omega) c4p).symm, H.pm (Pm.nil _)⟩)
     | (have q_ := hi
        exact ⟨_, res1 rfl rfl, congrArg Value.bool (dec_f fun hh => by have := (hh.2 i (by omega)).1; omega).symm, H.pm (Pm.nil _)⟩)
     | (have q_ := ha
        exact ⟨_, res1 rfl rfl, congrArg Value.bool (dec_t ⟨⟨by omega, by omega⟩, fun j hj => ha j (by omega)⟩).symm, H.pm (Pm.nil _)⟩)
     | exact ⟨_, res1 rfl rfl, congrArg Value.bool (dec_f fun hh => by obtain ⟨⟨h1, h2⟩, _⟩ := hh; omega).symm, H.pm (Pm.nil _)⟩
  have c2p := oF c2
  refine wc_skip ?_
  refine wcR ?_
  refine wA ?_
  refine wl_nil ?_
  refine wc_block ?_
  refine wc_loop (σ := Nat) (fun s => [(0, .slice A l.length c), (3, .int .i64 i), (4, .int .i64 s)]) (fun s W => s ≤ i ∧ (∀ k, k < s → (l.getD k ByteArray.empty) ≠ (l.getD i ByteArray.empty)) ∧ Holds w [] W) (fun s => i - s) 0 (sc rfl (sc rfl (sc rfl (sn _)))) ⟨Nat.zero_le _, upto_zero, H⟩ ?_
  rintro k W1 ⟨hk, hd, H⟩
  refine wc_seq ?_
  refine wcR ?_
  refine wM ?_
  refine wM ?_
  refine wV (v_lss rfl rfl) ?_
  refine wl_nil ?_
  refine wc_cond rfl (fun c3 => ?_) (fun c3 => ?_)
  rotate_left
  ·have c3p := oF c3
   refine wc_exit ?_
   refine wc_region ?_
   refine wM ?_
   refine wV (v_addi rfl rfl (by omega)) ?_
   refine wA ?_
   refine wl_nil ?_
   exact ⟨i + 1, (sc rfl (sc rfl (sn _))), ⟨by omega, upto_succ ha ⟨⟨by omega, by omega⟩, fun j hj => hd j (by omega)⟩, H.pm (by repeat constructor)⟩, by omega⟩
  have c3p := oT c3
  refine wc_skip ?_
  refine wc_seq ?_
  refine wc_block ?_
  refine wc_seq ?_
  refine wc_still mixed (by kernel_rfl) ?_
  have Hd := H.drew
  refine ws_v rfl rfl rfl (v_move rfl) ?_
  refine ws_v rfl rfl rfl (v_move rfl) ?_
  refine ws_v rfl rfl rfl (v_idx Try.underlying40 sz9 hr.ad rfl rfl (by omega) (by omega)) ?_
  refine ws_v rfl rfl rfl (v_load one9 rfl (Hd.cell (hr.at1sN (i := k) (by omega)))) ?_
  refine ws_v rfl rfl rfl (v_move rfl) ?_
  refine ws_v rfl rfl rfl (v_move rfl) ?_
  refine ws_v rfl rfl rfl (v_idx Try.underlying40 sz9 hr.ad rfl rfl (by omega) (by omega)) ?_
  refine ws_v rfl rfl rfl (v_load one9 rfl (Hd.cell (hr.at1sN (i := i) (by omega)))) ?_
  refine ws_v rfl rfl rfl (v_eqls rfl rfl) ?_
  refine ws_nil ?_
  refine wc_cond rfl (fun c4 => ?_) (fun c4 => ?_)
  rotate_left
  ·have c4p := oF c4
   refine wc_skip ?_
   refine wc_region ?_
   refine wM ?_
   refine wV (v_addi rfl rfl (by omega)) ?_
   refine wA ?_
   refine wl_nil ?_
   exact ⟨k + 1, (sc rfl (sc rfl (sc rfl (sn _)))), ⟨by omega, upto_succ hd c4p, Hd.pm (by repeat constructor)⟩, by omega⟩
  have c4p := oT c4
  refine wcR ?_
  refine wA ?_
  refine wl_nil ?_
  refine wc_ret ?_
  first
    | (have q_ := c4p
       exact ⟨_, res1 rfl rfl, congrArg Value.bool (dec_f fun hh => (hh.2 i (by omega)).2 k (by omega) c4p).symm, Hd.pm (Pm.nil _)⟩)
    | (have q_ := hi
       exact ⟨_, res1 rfl rfl, congrArg Value.bool (dec_f fun hh => by have := (hh.2 i (by omega)).1; omega).symm, Hd.pm (Pm.nil _)⟩)
    | (have q_ := ha
       exact ⟨_, res1 rfl rfl, congrArg Value.bool (dec_t ⟨⟨by omega, by omega⟩, fun j hj => ha j (by omega)⟩).symm, Hd.pm (Pm.nil _)⟩)
    | exact ⟨_, res1 rfl rfl, congrArg Value.bool (dec_f fun hh => by obtain ⟨⟨h1, h2⟩, _⟩ := hh; omega).symm, Hd.pm (Pm.nil _)⟩

set_option maxHeartbeats 1600000 in
set_option maxRecDepth 100000 in
theorem rlevels_calls {A : Option Addr} {c : Nat} {l : List Mv} {w : World} (hr : Rd fMv.kn w A l) (hl : l.length ≤ 1099511627776) :
    Calls Try.prog 85 #[.slice A l.length c] w fun e w' => ∃ v, e = .returned v ∧ v = .bool (dec (PrecsOk l)) ∧ Holds w [] w' := by
  refine calls_of Try.func85 rfl Try.ntmps85 rfl ?_
  have H := Holds.start w
  refine wcR ?_
  refine wA ?_
  refine wl_nil ?_
  refine wc_seq ?_
  refine wcR ?_
  refine wA ?_
  refine wl_nil ?_
  refine wc_block ?_
  refine wc_loop (σ := Nat) (fun s => [(0, .slice A l.length c), (3, .int .i64 s)]) (fun s W => s ≤ l.length ∧ (∀ j, j < s → precOk j (l.getD j mv0)) ∧ Holds w [] W) (fun s => l.length - s) 0 (sc rfl (sc rfl (sn _))) ⟨Nat.zero_le _, upto_zero, H⟩ ?_
  rintro i W0 ⟨hi, ha, H⟩
  refine wc_seq ?_
  refine wcR ?_
  refine wM ?_
  refine wM ?_
  refine wV (v_len Try.underlying41 rfl) ?_
  refine wV (v_lss rfl rfl) ?_
  refine wl_nil ?_
  refine wc_cond rfl (fun c0 => ?_) (fun c0 => ?_)
  rotate_left
  ·have c0p := oF c0
   refine wc_exit ?_
   refine wcR ?_
   refine wA ?_
   refine wl_nil ?_
   refine wc_ret ?_
   first
     | (have q_ := hi
        exact ⟨_, res1 rfl rfl, congrArg Value.bool (dec_f fun hh => by have h5 := hh i (by omega); unfold precOk at h5; omega).symm, H.pm (Pm.nil _)⟩)
     | (have q_ := ha
        exact ⟨_, res1 rfl rfl, congrArg Value.bool (dec_t fun j hj => ha j (by omega)).symm, H.pm (Pm.nil _)⟩)
  have c0p := oT c0
  refine wc_skip ?_
  refine wc_seq ?_
  refine wc_block ?_
  refine wcR ?_
  refine wM ?_
  refine wM ?_
  refine wV (v_idx Try.underlying41 sz145 hr.ad rfl rfl (by omega) (by omega)) ?_
  refine wV (v_fp fa145_0 rfl) ?_
  refine wV (v_load one3 rfl (H.cell (hr.atN (i := i) (k := 0) mv0 (by omega) rfl))) ?_
  refine wV (v_eql rfl rfl) ?_
  refine wM ?_
  refine wl_guard rfl rfl rfl (fun g18 => ?_) (fun g18 => ?_)
  rotate_left
  ·have g18p := oF g18
   refine wF g18 ?_
   refine wF g18 ?_
   refine wF g18 ?_
   refine wF g18 ?_
   refine wF g18 ?_
   refine wV (v_pick_f rfl g18 rfl) ?_
   refine wA ?_
   refine wl_nil ?_
   refine wcR ?_
   refine wM ?_
   refine wM ?_
   refine wV (v_idx Try.underlying41 sz145 hr.ad rfl rfl (by omega) (by omega)) ?_
   refine wV (v_fp fa145_0 rfl) ?_
   refine wV (v_load one3 rfl (H.cell (hr.atN (i := i) (k := 0) mv0 (by omega) rfl))) ?_
   refine wV (v_geq rfl rfl) ?_
   refine wM ?_
   refine wl_guard rfl rfl rfl (fun g32 => ?_) (fun g32 => ?_)
   rotate_left
   ·have g32p := oF g32
    refine wF g32 ?_
    refine wF g32 ?_
    refine wF g32 ?_
    refine wF g32 ?_
    refine wF g32 ?_
    refine wV (v_pick_f rfl g32 rfl) ?_
    refine wM ?_
    refine wF rfl ?_
    refine wF rfl ?_
    refine wF rfl ?_
    refine wF rfl ?_
    refine wF rfl ?_
    refine wF rfl ?_
    refine wV (v_pick_f rfl rfl rfl) ?_
    refine wA ?_
    refine wl_nil ?_
    refine wcR ?_
    refine wM ?_
    refine wV (v_not rfl) ?_
    refine wM ?_
    refine wO rfl ?_
    refine wM ?_
    refine wO rfl ?_
    refine wV (v_not rfl) ?_
    refine wO rfl ?_
    refine wM ?_
    refine wF rfl ?_
    refine wF rfl ?_
    refine wO rfl ?_
    refine wV (v_pick_t rfl rfl rfl) ?_
    refine wV (v_pick_t rfl rfl rfl) ?_
    refine wl_nil ?_
    refine wc_cond_t rfl ?_
    refine wcR ?_
    refine wA ?_
    refine wl_nil ?_
    refine wc_ret ?_
    first
      | (have q_ := hi
         exact ⟨_, res1 rfl rfl, congrArg Value.bool (dec_f fun hh => by have h5 := hh i (by omega); unfold precOk at h5; omega).symm, H.pm (Pm.nil _)⟩)
      | (have q_ := ha
         exact ⟨_, res1 rfl rfl, congrArg Value.bool (dec_t fun j hj => ha j (by omega)).symm, H.pm (Pm.nil _)⟩)
   have g32p := oT g32
   refine wM ?_
   refine wO g32 ?_
   refine wM ?_
   refine wO g32 ?_
   refine wV (v_idx Try.underlying41 sz145 hr.ad rfl rfl (by omega) (by omega)) ?_
   refine wO g32 ?_
   refine wV (v_fp fa145_1 rfl) ?_
   refine wO g32 ?_
   refine wV (v_load one3 rfl (H.cell (hr.atN (i := i) (k := 1) mv0 (by omega) rfl))) ?_
   refine wO g32 ?_
   refine wV (v_geq rfl rfl) ?_
   refine wV (v_pick_t rfl g32 rfl) ?_
   refine wM ?_
   refine wl_guard rfl rfl rfl (fun g40 => ?_) (fun g40 => ?_)
   rotate_left
   ·have g40p := oF g40
    refine wF g40 ?_
    refine wF g40 ?_
    refine wF g40 ?_
    refine wF g40 ?_
    refine wF g40 ?_
    refine wV (v_pick_f rfl g40 rfl) ?_
    refine wA ?_
    refine wl_nil ?_
    refine wcR ?_
    refine wM ?_
    refine wV (v_not rfl) ?_
    refine wM ?_
    refine wO rfl ?_
    refine wM ?_
    refine wO rfl ?_
    refine wV (v_not rfl) ?_
    refine wO rfl ?_
    refine wM ?_
    refine wF rfl ?_
    refine wF rfl ?_
    refine wO rfl ?_
    refine wV (v_pick_t rfl rfl rfl) ?_
    refine wV (v_pick_t rfl rfl rfl) ?_
    refine wl_nil ?_
    refine wc_cond_t rfl ?_
    refine wcR ?_
    refine wA ?_
    refine wl_nil ?_
    refine wc_ret ?_
    first
      | (have q_ := hi
         exact ⟨_, res1 rfl rfl, congrArg Value.bool (dec_f fun hh => by have h5 := hh i (by omega); unfold precOk at h5; omega).symm, H.pm (Pm.nil _)⟩)
      | (have q_ := ha
         exact ⟨_, res1 rfl rfl, congrArg Value.bool (dec_t fun j hj => ha j (by omega)).symm, H.pm (Pm.nil _)⟩)
   have g40p := oT g40
   refine wM ?_
   refine wO g40 ?_
   refine wM ?_
   refine wO g40 ?_
   refine wV (v_idx Try.underlying41 sz145 hr.ad rfl rfl (by omega) (by omega)) ?_
   refine wO g40 ?_
   refine wV (v_fp fa145_1 rfl) ?_
   refine wO g40 ?_
   refine wV (v_load one3 rfl (H.cell (hr.atN (i := i) (k := 1) mv0 (by omega) rfl))) ?_
   refine wO g40 ?_
   refine wV (v_leq rfl rfl) ?_
   refine wV (v_pick_t rfl g40 rfl) ?_
   refine wA ?_
   refine wl_nil ?_
   refine wcR ?_
   refine wM ?_
   refine wV (v_not rfl) ?_
   refine wM ?_
   refine wO rfl ?_
   refine wM ?_
   refine wO rfl ?_
   refine wV (v_not rfl) ?_
   refine wO rfl ?_
   refine wM ?_
   refine wl_guard rfl rfl rfl (fun g53 => ?_) (fun g53 => ?_)
   rotate_left
   ·have g53p := of_nd_t g53
    refine wF g53 ?_
    refine wO rfl ?_
    refine wV (v_pick_t rfl g53 rfl) ?_
    refine wV (v_pick_t rfl rfl rfl) ?_
    refine wl_nil ?_
    refine wc_cond_t rfl ?_
    refine wcR ?_
    refine wA ?_
    refine wl_nil ?_
    refine wc_ret ?_
    first
      | (have q_ := hi
         exact ⟨_, res1 rfl rfl, congrArg Value.bool (dec_f fun hh => by have h5 := hh i (by omega); unfold precOk at h5; omega).symm, H.pm (Pm.nil _)⟩)
      | (have q_ := ha
         exact ⟨_, res1 rfl rfl, congrArg Value.bool (dec_t fun j hj => ha j (by omega)).symm, H.pm (Pm.nil _)⟩)
   have g53p := of_nd_f g53
   refine wM ?_
   refine wO g53 ?_
   refine wV (v_lss rfl rfl) ?_
   refine wO rfl ?_
   refine wV (v_pick_f rfl g53 rfl) ?_
   refine wV (v_pick_t rfl rfl rfl) ?_
   refine wl_nil ?_
   refine wc_cond rfl (fun c1 => ?_) (fun c1 => ?_)
   rotate_left
   ·have c1p := oF c1
    refine wc_skip ?_
    refine wc_region ?_
    refine wM ?_
    refine wV (v_addi rfl rfl (by omega)) ?_
    refine wA ?_
    refine wl_nil ?_
    exact ⟨i + 1, (sc rfl (sc rfl (sn _))), ⟨by omega, upto_succ ha (by unfold precOk; omega), H.pm (by repeat constructor)⟩, by omega⟩
   have c1p := oT c1
   refine wcR ?_
   refine wA ?_
   refine wl_nil ?_
   refine wc_ret ?_
   first
     | (have q_ := hi
        exact ⟨_, res1 rfl rfl, congrArg Value.bool (dec_f fun hh => by have h5 := hh i (by omega); unfold precOk at h5; omega).symm, H.pm (Pm.nil _)⟩)
     | (have q_ := ha
        exact ⟨_, res1 rfl rfl, congrArg Value.bool (dec_t fun j hj => ha j (by omega)).symm, H.pm (Pm.nil _)⟩)
  have g18p := oT g18
  refine wM ?_
  refine wO g18 ?_
  refine wM ?_
  refine wO g18 ?_
  refine wV (v_idx Try.underlying41 sz145 hr.ad rfl rfl (by omega) (by omega)) ?_
  refine wO g18 ?_
  refine wV (v_fp fa145_1 rfl) ?_
  refine wO g18 ?_
  refine wV (v_load one3 rfl (H.cell (hr.atN (i := i) (k := 1) mv0 (by omega) rfl))) ?_
  refine wO g18 ?_
  refine wV (v_eql rfl rfl) ?_
  refine wV (v_pick_t rfl g18 rfl) ?_
  refine wA ?_
  refine wl_nil ?_
  refine wcR ?_
  refine wM ?_
  refine wM ?_
  refine wV (v_idx Try.underlying41 sz145 hr.ad rfl rfl (by omega) (by omega)) ?_
  refine wV (v_fp fa145_0 rfl) ?_
  refine wV (v_load one3 rfl (H.cell (hr.atN (i := i) (k := 0) mv0 (by omega) rfl))) ?_
  refine wV (v_geq rfl rfl) ?_
  refine wM ?_
  refine wl_guard rfl rfl rfl (fun g32 => ?_) (fun g32 => ?_)
  rotate_left
  ·have g32p := oF g32
   refine wF g32 ?_
   refine wF g32 ?_
   refine wF g32 ?_
   refine wF g32 ?_
   refine wF g32 ?_
   refine wV (v_pick_f rfl g32 rfl) ?_
   refine wM ?_
   refine wF rfl ?_
   refine wF rfl ?_
   refine wF rfl ?_
   refine wF rfl ?_
   refine wF rfl ?_
   refine wF rfl ?_
   refine wV (v_pick_f rfl rfl rfl) ?_
   refine wA ?_
   refine wl_nil ?_
   refine wcR ?_
   refine wM ?_
   refine wV (v_not rfl) ?_
   refine wM ?_
   refine wl_guard rfl rfl rfl (fun g50 => ?_) (fun g50 => ?_)
   rotate_left
   ·have g50p := of_nd_f g50
    refine wF g50 ?_
    refine wF g50 ?_
    refine wl_offu rfl rfl rfl ?_
    refine wl_offu rfl rfl rfl ?_
    refine wF g50 ?_
    refine wV (v_pick_f rfl g50 rfl) ?_
    refine wl_nil ?_
    refine wc_cond_f rfl ?_
    refine wc_skip ?_
    refine wc_region ?_
    refine wM ?_
    refine wV (v_addi rfl rfl (by omega)) ?_
    refine wA ?_
    refine wl_nil ?_
    exact ⟨i + 1, (sc rfl (sc rfl (sn _))), ⟨by omega, upto_succ ha (by unfold precOk; omega), H.pm (by repeat constructor)⟩, by omega⟩
   have g50p := of_nd_t g50
   refine wM ?_
   refine wO g50 ?_
   refine wV (v_not rfl) ?_
   refine wO g50 ?_
   refine wM ?_
   refine wF rfl ?_
   refine wF rfl ?_
   refine wO g50 ?_
   refine wV (v_pick_t rfl rfl rfl) ?_
   refine wV (v_pick_t rfl g50 rfl) ?_
   refine wl_nil ?_
   refine wc_cond_t rfl ?_
   refine wcR ?_
   refine wA ?_
   refine wl_nil ?_
   refine wc_ret ?_
   first
     | (have q_ := hi
        exact ⟨_, res1 rfl rfl, congrArg Value.bool (dec_f fun hh => by have h5 := hh i (by omega); unfold precOk at h5; omega).symm, H.pm (Pm.nil _)⟩)
     | (have q_ := ha
        exact ⟨_, res1 rfl rfl, congrArg Value.bool (dec_t fun j hj => ha j (by omega)).symm, H.pm (Pm.nil _)⟩)
  have g32p := oT g32
  refine wM ?_
  refine wO g32 ?_
  refine wM ?_
  refine wO g32 ?_
  refine wV (v_idx Try.underlying41 sz145 hr.ad rfl rfl (by omega) (by omega)) ?_
  refine wO g32 ?_
  refine wV (v_fp fa145_1 rfl) ?_
  refine wO g32 ?_
  refine wV (v_load one3 rfl (H.cell (hr.atN (i := i) (k := 1) mv0 (by omega) rfl))) ?_
  refine wO g32 ?_
  refine wV (v_geq rfl rfl) ?_
  refine wV (v_pick_t rfl g32 rfl) ?_
  refine wM ?_
  refine wl_guard rfl rfl rfl (fun g40 => ?_) (fun g40 => ?_)
  rotate_left
  ·have g40p := oF g40
   refine wF g40 ?_
   refine wF g40 ?_
   refine wF g40 ?_
   refine wF g40 ?_
   refine wF g40 ?_
   refine wV (v_pick_f rfl g40 rfl) ?_
   refine wA ?_
   refine wl_nil ?_
   refine wcR ?_
   refine wM ?_
   refine wV (v_not rfl) ?_
   refine wM ?_
   refine wl_guard rfl rfl rfl (fun g50 => ?_) (fun g50 => ?_)
   rotate_left
   ·have g50p := of_nd_f g50
    refine wF g50 ?_
    refine wF g50 ?_
    refine wl_offu rfl rfl rfl ?_
    refine wl_offu rfl rfl rfl ?_
    refine wF g50 ?_
    refine wV (v_pick_f rfl g50 rfl) ?_
    refine wl_nil ?_
    refine wc_cond_f rfl ?_
    refine wc_skip ?_
    refine wc_region ?_
    refine wM ?_
    refine wV (v_addi rfl rfl (by omega)) ?_
    refine wA ?_
    refine wl_nil ?_
    exact ⟨i + 1, (sc rfl (sc rfl (sn _))), ⟨by omega, upto_succ ha (by unfold precOk; omega), H.pm (by repeat constructor)⟩, by omega⟩
   have g50p := of_nd_t g50
   refine wM ?_
   refine wO g50 ?_
   refine wV (v_not rfl) ?_
   refine wO g50 ?_
   refine wM ?_
   refine wF rfl ?_
   refine wF rfl ?_
   refine wO g50 ?_
   refine wV (v_pick_t rfl rfl rfl) ?_
   refine wV (v_pick_t rfl g50 rfl) ?_
   refine wl_nil ?_
   refine wc_cond_t rfl ?_
   refine wcR ?_
   refine wA ?_
   refine wl_nil ?_
   refine wc_ret ?_
   first
     | (have q_ := hi
        exact ⟨_, res1 rfl rfl, congrArg Value.bool (dec_f fun hh => by have h5 := hh i (by omega); unfold precOk at h5; omega).symm, H.pm (Pm.nil _)⟩)
     | (have q_ := ha
        exact ⟨_, res1 rfl rfl, congrArg Value.bool (dec_t fun j hj => ha j (by omega)).symm, H.pm (Pm.nil _)⟩)
  have g40p := oT g40
  refine wM ?_
  refine wO g40 ?_
  refine wM ?_
  refine wO g40 ?_
  refine wV (v_idx Try.underlying41 sz145 hr.ad rfl rfl (by omega) (by omega)) ?_
  refine wO g40 ?_
  refine wV (v_fp fa145_1 rfl) ?_
  refine wO g40 ?_
  refine wV (v_load one3 rfl (H.cell (hr.atN (i := i) (k := 1) mv0 (by omega) rfl))) ?_
  refine wO g40 ?_
  refine wV (v_leq rfl rfl) ?_
  refine wV (v_pick_t rfl g40 rfl) ?_
  refine wA ?_
  refine wl_nil ?_
  refine wcR ?_
  refine wM ?_
  refine wV (v_not rfl) ?_
  refine wM ?_
  refine wl_guard rfl rfl rfl (fun g50 => ?_) (fun g50 => ?_)
  rotate_left
  ·have g50p := of_nd_f g50
   refine wF g50 ?_
   refine wF g50 ?_
   refine wl_offu rfl rfl rfl ?_
   refine wl_offu rfl rfl rfl ?_
   refine wF g50 ?_
   refine wV (v_pick_f rfl g50 rfl) ?_
   refine wl_nil ?_
   refine wc_cond_f rfl ?_
   refine wc_skip ?_
   refine wc_region ?_
   refine wM ?_
   refine wV (v_addi rfl rfl (by omega)) ?_
   refine wA ?_
   refine wl_nil ?_
   exact ⟨i + 1, (sc rfl (sc rfl (sn _))), ⟨by omega, upto_succ ha (by unfold precOk; omega), H.pm (by repeat constructor)⟩, by omega⟩
  have g50p := of_nd_t g50
  refine wM ?_
  refine wO g50 ?_
  refine wV (v_not rfl) ?_
  refine wO g50 ?_
  refine wM ?_
  refine wl_guard rfl rfl rfl (fun g53 => ?_) (fun g53 => ?_)
  rotate_left
  ·have g53p := of_nd_t g53
   refine wF g53 ?_
   refine wO g50 ?_
   refine wV (v_pick_t rfl g53 rfl) ?_
   refine wV (v_pick_t rfl g50 rfl) ?_
   refine wl_nil ?_
   refine wc_cond_t rfl ?_
   refine wcR ?_
   refine wA ?_
   refine wl_nil ?_
   refine wc_ret ?_
   first
     | (have q_ := hi
        exact ⟨_, res1 rfl rfl, congrArg Value.bool (dec_f fun hh => by have h5 := hh i (by omega); unfold precOk at h5; omega).symm, H.pm (Pm.nil _)⟩)
     | (have q_ := ha
        exact ⟨_, res1 rfl rfl, congrArg Value.bool (dec_t fun j hj => ha j (by omega)).symm, H.pm (Pm.nil _)⟩)
  have g53p := of_nd_f g53
  refine wM ?_
  refine wO g53 ?_
  refine wV (v_lss rfl rfl) ?_
  refine wO g50 ?_
  refine wV (v_pick_f rfl g53 rfl) ?_
  refine wV (v_pick_t rfl g50 rfl) ?_
  refine wl_nil ?_
  refine wc_cond rfl (fun c1 => ?_) (fun c1 => ?_)
  rotate_left
  ·have c1p := oF c1
   refine wc_skip ?_
   refine wc_region ?_
   refine wM ?_
   refine wV (v_addi rfl rfl (by omega)) ?_
   refine wA ?_
   refine wl_nil ?_
   exact ⟨i + 1, (sc rfl (sc rfl (sn _))), ⟨by omega, upto_succ ha (by unfold precOk; omega), H.pm (by repeat constructor)⟩, by omega⟩
  have c1p := oT c1
  refine wcR ?_
  refine wA ?_
  refine wl_nil ?_
  refine wc_ret ?_
  first
    | (have q_ := hi
       exact ⟨_, res1 rfl rfl, congrArg Value.bool (dec_f fun hh => by have h5 := hh i (by omega); unfold precOk at h5; omega).symm, H.pm (Pm.nil _)⟩)
    | (have q_ := ha
       exact ⟨_, res1 rfl rfl, congrArg Value.bool (dec_t fun j hj => ha j (by omega)).symm, H.pm (Pm.nil _)⟩)
end Go.Proofs.Ytgdemplcpcacaaa.KindsW
