/- Which texts are names. -/
import Derived.Test.YtgdemplcpcacaaaProg
import Derived.Test.YtgdemplcpcacaaaK02
set_option linter.unusedVariables false
set_option linter.unusedSimpArgs false
/-! Which texts are names. -/
namespace Go.Proofs.Ytgdemplcpcacaaa.NameW
open Go Go.RowKit Go.Proofs.YtgdemplcpcacaaaFx 


set_option maxHeartbeats 1600000 in
set_option maxRecDepth 100000 in
theorem named_calls {s : ByteArray} {w : World} (hs : s.size ≤ 1099511627776) : Calls Try.prog 82 #[.string s] w fun e w' => ∃ v, e = .returned v ∧ v = .bool (dec (NameOk 64 s)) ∧ Holds w [] w' := by
  refine calls_of Try.func82 rfl Try.ntmps82 rfl ?_
  have H := Holds.start w
  refine wcR ?_
  refine wA ?_
  refine wl_nil ?_
  refine wc_seq ?_
  refine wcR ?_
  refine wA ?_
  refine wl_nil ?_
  refine wc_block ?_
  refine wc_loop (σ := Nat) (fun q => [(0, .string s), (3, .int .i64 q)]) (fun q W => q ≤ s.size ∧ (∀ j, j < q → chOk j (byt s j)) ∧ Holds w [] W) (fun q => s.size - q) 0 (sc rfl (sc rfl (sn _))) ⟨Nat.zero_le _, upto_zero, H⟩ ?_
  rintro i W0 ⟨hi, ha, H⟩
  refine wc_seq ?_
  refine wcR ?_
  refine wM ?_
  refine wM ?_
  refine wV (v_lens Try.underlying9 rfl) ?_
  refine wV (v_lss rfl rfl) ?_
  refine wl_nil ?_
  refine wc_cond rfl (fun c0 => ?_) (fun c0 => ?_)
  rotate_left
  ·have c0p := oF c0
   refine wc_exit ?_
   refine wcR ?_
   refine wM ?_
   refine wV (v_lens Try.underlying9 rfl) ?_
   refine wV (v_geq rfl rfl) ?_
   refine wM ?_
   refine wl_guard rfl rfl rfl (fun g47 => ?_) (fun g47 => ?_)
   rotate_left
   ·have g47p := oF g47
    refine wF g47 ?_
    refine wF g47 ?_
    refine wV (v_pick_f rfl g47 rfl) ?_
    refine wA ?_
    refine wl_nil ?_
    refine wc_ret ?_
    first
      | exact ⟨_, res1 rfl rfl, congrArg Value.bool (dec_eq ⟨fun hd => ⟨by omega, by have := of_decide_eq_true hd; omega, fun j hj => ha j (by omega)⟩, fun hh => decide_eq_true (by obtain ⟨h5, h6, _⟩ := hh; omega)⟩), H.pm (by repeat constructor)⟩
      | exact ⟨_, res1 rfl rfl, congrArg Value.bool (dec_f fun hh => by have h5 := hh.2.2 i (by omega); unfold chOk at h5; omega).symm, H.pm (by repeat constructor)⟩
      | exact ⟨_, res1 rfl rfl, congrArg Value.bool (dec_t ⟨by omega, by omega, fun j hj => ha j (by omega)⟩).symm, H.pm (by repeat constructor)⟩
      | exact ⟨_, res1 rfl rfl, congrArg Value.bool (dec_f fun hh => by obtain ⟨h5, h6, _⟩ := hh; omega).symm, H.pm (by repeat constructor)⟩
   have g47p := oT g47
   refine wM ?_
   refine wO g47 ?_
   refine wV (v_lens Try.underlying9 rfl) ?_
   refine wO g47 ?_
   refine wV (v_leq rfl rfl) ?_
   refine wV (v_pick_t rfl g47 rfl) ?_
   refine wA ?_
   refine wl_nil ?_
   refine wc_ret ?_
   first
     | exact ⟨_, res1 rfl rfl, congrArg Value.bool (dec_eq ⟨fun hd => ⟨by omega, by have := of_decide_eq_true hd; omega, fun j hj => ha j (by omega)⟩, fun hh => decide_eq_true (by obtain ⟨h5, h6, _⟩ := hh; omega)⟩), H.pm (by repeat constructor)⟩
     | exact ⟨_, res1 rfl rfl, congrArg Value.bool (dec_f fun hh => by have h5 := hh.2.2 i (by omega); unfold chOk at h5; omega).symm, H.pm (by repeat constructor)⟩
     | exact ⟨_, res1 rfl rfl, congrArg Value.bool (dec_t ⟨by omega, by omega, fun j hj => ha j (by omega)⟩).symm, H.pm (by repeat constructor)⟩
     | exact ⟨_, res1 rfl rfl, congrArg Value.bool (dec_f fun hh => by obtain ⟨h5, h6, _⟩ := hh; omega).symm, H.pm (by repeat constructor)⟩
  have c0p := oT c0
  refine wc_skip ?_
  refine wc_seq ?_
  refine wc_block ?_
  refine wcR ?_
  refine wM ?_
  refine wM ?_
  refine wV (v_idxs (i := i) (s := s) Try.underlying9 rfl rfl (by omega)) ?_
  refine wA ?_
  refine wl_nil ?_
  refine wc_seq ?_
  refine wcR ?_
  refine wM ?_
  refine wV (v_geq rfl rfl) ?_
  refine wM ?_
  refine wl_guard rfl rfl rfl (fun g16 => ?_) (fun g16 => ?_)
  rotate_left
  ·have g16p := oF g16
   refine wF g16 ?_
   refine wV (v_pick_f rfl g16 rfl) ?_
   refine wM ?_
   refine wO rfl ?_
   refine wM ?_
   refine wO rfl ?_
   refine wV (v_geq rfl rfl) ?_
   refine wO rfl ?_
   refine wM ?_
   refine wl_guard rfl rfl rfl (fun g23 => ?_) (fun g23 => ?_)
   rotate_left
   ·have g23p := oF g23
    refine wF g23 ?_
    refine wO rfl ?_
    refine wV (v_pick_f rfl g23 rfl) ?_
    refine wV (v_pick_f rfl rfl rfl) ?_
    refine wM ?_
    refine wO rfl ?_
    refine wM ?_
    refine wO rfl ?_
    refine wV (v_eql rfl rfl) ?_
    refine wV (v_pick_f rfl rfl rfl) ?_
    refine wM ?_
    refine wl_guard rfl rfl rfl (fun g32 => ?_) (fun g32 => ?_)
    rotate_left
    ·have g32p := oT g32
     refine wF g32 ?_
     refine wF g32 ?_
     refine wl_offu rfl rfl rfl ?_
     refine wl_offu rfl rfl rfl ?_
     refine wF g32 ?_
     refine wF g32 ?_
     refine wl_offu rfl rfl rfl ?_
     refine wl_offu rfl rfl rfl ?_
     refine wF g32 ?_
     refine wV (v_pick_t rfl g32 rfl) ?_
     refine wl_nil ?_
     refine wc_cond_t rfl ?_
     refine wc_exit ?_
     refine wc_region ?_
     refine wM ?_
     refine wV (v_addi rfl rfl (by omega)) ?_
     refine wA ?_
     refine wl_nil ?_
     exact ⟨i + 1, (sc rfl (sc rfl (sn _))), ⟨by omega, upto_succ ha (by unfold chOk; omega), H.pm (by repeat constructor)⟩, by omega⟩
    have g32p := oF g32
    refine wM ?_
    refine wO g32 ?_
    refine wV (v_gtr rfl rfl) ?_
    refine wO g32 ?_
    refine wM ?_
    refine wl_guard rfl rfl rfl (fun g35 => ?_) (fun g35 => ?_)
    rotate_left
    ·have g35p := oF g35
     refine wF g35 ?_
     refine wO g32 ?_
     refine wV (v_pick_f rfl g35 rfl) ?_
     refine wO g32 ?_
     refine wM ?_
     refine wF rfl ?_
     refine wF rfl ?_
     refine wO g32 ?_
     refine wV (v_pick_f rfl rfl rfl) ?_
     refine wV (v_pick_f rfl g32 rfl) ?_
     refine wl_nil ?_
     refine wc_cond_f rfl ?_
     refine wc_skip ?_
     refine wcR ?_
     refine wA ?_
     refine wl_nil ?_
     refine wc_ret ?_
     first
       | exact ⟨_, res1 rfl rfl, congrArg Value.bool (dec_eq ⟨fun hd => ⟨by omega, by have := of_decide_eq_true hd; omega, fun j hj => ha j (by omega)⟩, fun hh => decide_eq_true (by obtain ⟨h5, h6, _⟩ := hh; omega)⟩), H.pm (by repeat constructor)⟩
       | exact ⟨_, res1 rfl rfl, congrArg Value.bool (dec_f fun hh => by have h5 := hh.2.2 i (by omega); unfold chOk at h5; omega).symm, H.pm (by repeat constructor)⟩
       | exact ⟨_, res1 rfl rfl, congrArg Value.bool (dec_t ⟨by omega, by omega, fun j hj => ha j (by omega)⟩).symm, H.pm (by repeat constructor)⟩
       | exact ⟨_, res1 rfl rfl, congrArg Value.bool (dec_f fun hh => by obtain ⟨h5, h6, _⟩ := hh; omega).symm, H.pm (by repeat constructor)⟩
    have g35p := oT g35
    refine wM ?_
    refine wO g35 ?_
    refine wV (v_geq rfl rfl) ?_
    refine wO g32 ?_
    refine wV (v_pick_t rfl g35 rfl) ?_
    refine wO g32 ?_
    refine wM ?_
    refine wl_guard rfl rfl rfl (fun g39 => ?_) (fun g39 => ?_)
    rotate_left
    ·have g39p := oF g39
     refine wF g39 ?_
     refine wO g32 ?_
     refine wV (v_pick_f rfl g39 rfl) ?_
     refine wV (v_pick_f rfl g32 rfl) ?_
     refine wl_nil ?_
     refine wc_cond_f rfl ?_
     refine wc_skip ?_
     refine wcR ?_
     refine wA ?_
     refine wl_nil ?_
     refine wc_ret ?_
     first
       | exact ⟨_, res1 rfl rfl, congrArg Value.bool (dec_eq ⟨fun hd => ⟨by omega, by have := of_decide_eq_true hd; omega, fun j hj => ha j (by omega)⟩, fun hh => decide_eq_true (by obtain ⟨h5, h6, _⟩ := hh; omega)⟩), H.pm (by repeat constructor)⟩
       | exact ⟨_, res1 rfl rfl, congrArg Value.bool (dec_f fun hh => by have h5 := hh.2.2 i (by omega); unfold chOk at h5; omega).symm, H.pm (by repeat constructor)⟩
       | exact ⟨_, res1 rfl rfl, congrArg Value.bool (dec_t ⟨by omega, by omega, fun j hj => ha j (by omega)⟩).symm, H.pm (by repeat constructor)⟩
       | exact ⟨_, res1 rfl rfl, congrArg Value.bool (dec_f fun hh => by obtain ⟨h5, h6, _⟩ := hh; omega).symm, H.pm (by repeat constructor)⟩
    have g39p := oT g39
    refine wM ?_
    refine wO g39 ?_
    refine wV (v_leq rfl rfl) ?_
    refine wO g32 ?_
    refine wV (v_pick_t rfl g39 rfl) ?_
    refine wV (v_pick_f rfl g32 rfl) ?_
    refine wl_nil ?_
    refine wc_cond rfl (fun c1 => ?_) (fun c1 => ?_)
    ·have c1p := oT c1
     refine wc_exit ?_
     refine wc_region ?_
     refine wM ?_
     refine wV (v_addi rfl rfl (by omega)) ?_
     refine wA ?_
     refine wl_nil ?_
     exact ⟨i + 1, (sc rfl (sc rfl (sn _))), ⟨by omega, upto_succ ha (by unfold chOk; omega), H.pm (by repeat constructor)⟩, by omega⟩
    have c1p := oF c1
    refine wc_skip ?_
    refine wcR ?_
    refine wA ?_
    refine wl_nil ?_
    refine wc_ret ?_
    first
      | exact ⟨_, res1 rfl rfl, congrArg Value.bool (dec_eq ⟨fun hd => ⟨by omega, by have := of_decide_eq_true hd; omega, fun j hj => ha j (by omega)⟩, fun hh => decide_eq_true (by obtain ⟨h5, h6, _⟩ := hh; omega)⟩), H.pm (by repeat constructor)⟩
      | exact ⟨_, res1 rfl rfl, congrArg Value.bool (dec_f fun hh => by have h5 := hh.2.2 i (by omega); unfold chOk at h5; omega).symm, H.pm (by repeat constructor)⟩
      | exact ⟨_, res1 rfl rfl, congrArg Value.bool (dec_t ⟨by omega, by omega, fun j hj => ha j (by omega)⟩).symm, H.pm (by repeat constructor)⟩
      | exact ⟨_, res1 rfl rfl, congrArg Value.bool (dec_f fun hh => by obtain ⟨h5, h6, _⟩ := hh; omega).symm, H.pm (by repeat constructor)⟩
   have g23p := oT g23
   refine wM ?_
   refine wO g23 ?_
   refine wV (v_leq rfl rfl) ?_
   refine wO rfl ?_
   refine wV (v_pick_t rfl g23 rfl) ?_
   refine wV (v_pick_f rfl rfl rfl) ?_
   refine wM ?_
   refine wl_guard rfl rfl rfl (fun g28 => ?_) (fun g28 => ?_)
   rotate_left
   ·have g28p := oT g28
    refine wF g28 ?_
    refine wV (v_pick_t rfl g28 rfl) ?_
    refine wM ?_
    refine wF rfl ?_
    refine wF rfl ?_
    refine wF rfl ?_
    refine wl_offu rfl rfl rfl ?_
    refine wl_offu rfl rfl rfl ?_
    refine wF rfl ?_
    refine wF rfl ?_
    refine wl_offu rfl rfl rfl ?_
    refine wl_offu rfl rfl rfl ?_
    refine wF rfl ?_
    refine wV (v_pick_t rfl rfl rfl) ?_
    refine wl_nil ?_
    refine wc_cond_t rfl ?_
    refine wc_exit ?_
    refine wc_region ?_
    refine wM ?_
    refine wV (v_addi rfl rfl (by omega)) ?_
    refine wA ?_
    refine wl_nil ?_
    exact ⟨i + 1, (sc rfl (sc rfl (sn _))), ⟨by omega, upto_succ ha (by unfold chOk; omega), H.pm (by repeat constructor)⟩, by omega⟩
   have g28p := oF g28
   refine wM ?_
   refine wO g28 ?_
   refine wV (v_eql rfl rfl) ?_
   refine wV (v_pick_f rfl g28 rfl) ?_
   refine wM ?_
   refine wl_guard rfl rfl rfl (fun g32 => ?_) (fun g32 => ?_)
   rotate_left
   ·have g32p := oT g32
    refine wF g32 ?_
    refine wF g32 ?_
    refine wl_offu rfl rfl rfl ?_
    refine wl_offu rfl rfl rfl ?_
    refine wF g32 ?_
    refine wF g32 ?_
    refine wl_offu rfl rfl rfl ?_
    refine wl_offu rfl rfl rfl ?_
    refine wF g32 ?_
    refine wV (v_pick_t rfl g32 rfl) ?_
    refine wl_nil ?_
    refine wc_cond_t rfl ?_
    refine wc_exit ?_
    refine wc_region ?_
    refine wM ?_
    refine wV (v_addi rfl rfl (by omega)) ?_
    refine wA ?_
    refine wl_nil ?_
    exact ⟨i + 1, (sc rfl (sc rfl (sn _))), ⟨by omega, upto_succ ha (by unfold chOk; omega), H.pm (by repeat constructor)⟩, by omega⟩
   have g32p := oF g32
   refine wM ?_
   refine wO g32 ?_
   refine wV (v_gtr rfl rfl) ?_
   refine wO g32 ?_
   refine wM ?_
   refine wl_guard rfl rfl rfl (fun g35 => ?_) (fun g35 => ?_)
   rotate_left
   ·have g35p := oF g35
    refine wF g35 ?_
    refine wO g32 ?_
    refine wV (v_pick_f rfl g35 rfl) ?_
    refine wO g32 ?_
    refine wM ?_
    refine wF rfl ?_
    refine wF rfl ?_
    refine wO g32 ?_
    refine wV (v_pick_f rfl rfl rfl) ?_
    refine wV (v_pick_f rfl g32 rfl) ?_
    refine wl_nil ?_
    refine wc_cond_f rfl ?_
    refine wc_skip ?_
    refine wcR ?_
    refine wA ?_
    refine wl_nil ?_
    refine wc_ret ?_
    first
      | exact ⟨_, res1 rfl rfl, congrArg Value.bool (dec_eq ⟨fun hd => ⟨by omega, by have := of_decide_eq_true hd; omega, fun j hj => ha j (by omega)⟩, fun hh => decide_eq_true (by obtain ⟨h5, h6, _⟩ := hh; omega)⟩), H.pm (by repeat constructor)⟩
      | exact ⟨_, res1 rfl rfl, congrArg Value.bool (dec_f fun hh => by have h5 := hh.2.2 i (by omega); unfold chOk at h5; omega).symm, H.pm (by repeat constructor)⟩
      | exact ⟨_, res1 rfl rfl, congrArg Value.bool (dec_t ⟨by omega, by omega, fun j hj => ha j (by omega)⟩).symm, H.pm (by repeat constructor)⟩
      | exact ⟨_, res1 rfl rfl, congrArg Value.bool (dec_f fun hh => by obtain ⟨h5, h6, _⟩ := hh; omega).symm, H.pm (by repeat constructor)⟩
   have g35p := oT g35
   refine wM ?_
   refine wO g35 ?_
   refine wV (v_geq rfl rfl) ?_
   refine wO g32 ?_
   refine wV (v_pick_t rfl g35 rfl) ?_
   refine wO g32 ?_
   refine wM ?_
   refine wl_guard rfl rfl rfl (fun g39 => ?_) (fun g39 => ?_)
   rotate_left
   ·have g39p := oF g39
    refine wF g39 ?_
    refine wO g32 ?_
    refine wV (v_pick_f rfl g39 rfl) ?_
    refine wV (v_pick_f rfl g32 rfl) ?_
    refine wl_nil ?_
    refine wc_cond_f rfl ?_
    refine wc_skip ?_
    refine wcR ?_
    refine wA ?_
    refine wl_nil ?_
    refine wc_ret ?_
    first
      | exact ⟨_, res1 rfl rfl, congrArg Value.bool (dec_eq ⟨fun hd => ⟨by omega, by have := of_decide_eq_true hd; omega, fun j hj => ha j (by omega)⟩, fun hh => decide_eq_true (by obtain ⟨h5, h6, _⟩ := hh; omega)⟩), H.pm (by repeat constructor)⟩
      | exact ⟨_, res1 rfl rfl, congrArg Value.bool (dec_f fun hh => by have h5 := hh.2.2 i (by omega); unfold chOk at h5; omega).symm, H.pm (by repeat constructor)⟩
      | exact ⟨_, res1 rfl rfl, congrArg Value.bool (dec_t ⟨by omega, by omega, fun j hj => ha j (by omega)⟩).symm, H.pm (by repeat constructor)⟩
      | exact ⟨_, res1 rfl rfl, congrArg Value.bool (dec_f fun hh => by obtain ⟨h5, h6, _⟩ := hh; omega).symm, H.pm (by repeat constructor)⟩
   have g39p := oT g39
   refine wM ?_
   refine wO g39 ?_
   refine wV (v_leq rfl rfl) ?_
   refine wO g32 ?_
   refine wV (v_pick_t rfl g39 rfl) ?_
   refine wV (v_pick_f rfl g32 rfl) ?_
   refine wl_nil ?_
   refine wc_cond rfl (fun c1 => ?_) (fun c1 => ?_)
   ·have c1p := oT c1
    refine wc_exit ?_
    refine wc_region ?_
    refine wM ?_
    refine wV (v_addi rfl rfl (by omega)) ?_
    refine wA ?_
    refine wl_nil ?_
    exact ⟨i + 1, (sc rfl (sc rfl (sn _))), ⟨by omega, upto_succ ha (by unfold chOk; omega), H.pm (by repeat constructor)⟩, by omega⟩
   have c1p := oF c1
   refine wc_skip ?_
   refine wcR ?_
   refine wA ?_
   refine wl_nil ?_
   refine wc_ret ?_
   first
     | exact ⟨_, res1 rfl rfl, congrArg Value.bool (dec_eq ⟨fun hd => ⟨by omega, by have := of_decide_eq_true hd; omega, fun j hj => ha j (by omega)⟩, fun hh => decide_eq_true (by obtain ⟨h5, h6, _⟩ := hh; omega)⟩), H.pm (by repeat constructor)⟩
     | exact ⟨_, res1 rfl rfl, congrArg Value.bool (dec_f fun hh => by have h5 := hh.2.2 i (by omega); unfold chOk at h5; omega).symm, H.pm (by repeat constructor)⟩
     | exact ⟨_, res1 rfl rfl, congrArg Value.bool (dec_t ⟨by omega, by omega, fun j hj => ha j (by omega)⟩).symm, H.pm (by repeat constructor)⟩
     | exact ⟨_, res1 rfl rfl, congrArg Value.bool (dec_f fun hh => by obtain ⟨h5, h6, _⟩ := hh; omega).symm, H.pm (by repeat constructor)⟩
  have g16p := oT g16
  refine wM ?_
  refine wO g16 ?_
  refine wV (v_leq rfl rfl) ?_
  refine wV (v_pick_t rfl g16 rfl) ?_
  refine wM ?_
  refine wl_guard rfl rfl rfl (fun g20 => ?_) (fun g20 => ?_)
  rotate_left
  ·have g20p := oT g20
   refine wF g20 ?_
   refine wF g20 ?_
   refine wl_offu rfl rfl rfl ?_
   refine wl_offu rfl rfl rfl ?_
   refine wF g20 ?_
   refine wV (v_pick_t rfl g20 rfl) ?_
   refine wM ?_
   refine wF rfl ?_
   refine wF rfl ?_
   refine wV (v_pick_t rfl rfl rfl) ?_
   refine wM ?_
   refine wF rfl ?_
   refine wF rfl ?_
   refine wF rfl ?_
   refine wl_offu rfl rfl rfl ?_
   refine wl_offu rfl rfl rfl ?_
   refine wF rfl ?_
   refine wF rfl ?_
   refine wl_offu rfl rfl rfl ?_
   refine wl_offu rfl rfl rfl ?_
   refine wF rfl ?_
   refine wV (v_pick_t rfl rfl rfl) ?_
   refine wl_nil ?_
   refine wc_cond_t rfl ?_
   refine wc_exit ?_
   refine wc_region ?_
   refine wM ?_
   refine wV (v_addi rfl rfl (by omega)) ?_
   refine wA ?_
   refine wl_nil ?_
   exact ⟨i + 1, (sc rfl (sc rfl (sn _))), ⟨by omega, upto_succ ha (by unfold chOk; omega), H.pm (by repeat constructor)⟩, by omega⟩
  have g20p := oF g20
  refine wM ?_
  refine wO g20 ?_
  refine wV (v_geq rfl rfl) ?_
  refine wO g20 ?_
  refine wM ?_
  refine wl_guard rfl rfl rfl (fun g23 => ?_) (fun g23 => ?_)
  rotate_left
  ·have g23p := oF g23
   refine wF g23 ?_
   refine wO g20 ?_
   refine wV (v_pick_f rfl g23 rfl) ?_
   refine wV (v_pick_f rfl g20 rfl) ?_
   refine wM ?_
   refine wO rfl ?_
   refine wM ?_
   refine wO rfl ?_
   refine wV (v_eql rfl rfl) ?_
   refine wV (v_pick_f rfl rfl rfl) ?_
   refine wM ?_
   refine wl_guard rfl rfl rfl (fun g32 => ?_) (fun g32 => ?_)
   rotate_left
   ·have g32p := oT g32
    refine wF g32 ?_
    refine wF g32 ?_
    refine wl_offu rfl rfl rfl ?_
    refine wl_offu rfl rfl rfl ?_
    refine wF g32 ?_
    refine wF g32 ?_
    refine wl_offu rfl rfl rfl ?_
    refine wl_offu rfl rfl rfl ?_
    refine wF g32 ?_
    refine wV (v_pick_t rfl g32 rfl) ?_
    refine wl_nil ?_
    refine wc_cond_t rfl ?_
    refine wc_exit ?_
    refine wc_region ?_
    refine wM ?_
    refine wV (v_addi rfl rfl (by omega)) ?_
    refine wA ?_
    refine wl_nil ?_
    exact ⟨i + 1, (sc rfl (sc rfl (sn _))), ⟨by omega, upto_succ ha (by unfold chOk; omega), H.pm (by repeat constructor)⟩, by omega⟩
   have g32p := oF g32
   refine wM ?_
   refine wO g32 ?_
   refine wV (v_gtr rfl rfl) ?_
   refine wO g32 ?_
   refine wM ?_
   refine wl_guard rfl rfl rfl (fun g35 => ?_) (fun g35 => ?_)
   rotate_left
   ·have g35p := oF g35
    refine wF g35 ?_
    refine wO g32 ?_
    refine wV (v_pick_f rfl g35 rfl) ?_
    refine wO g32 ?_
    refine wM ?_
    refine wF rfl ?_
    refine wF rfl ?_
    refine wO g32 ?_
    refine wV (v_pick_f rfl rfl rfl) ?_
    refine wV (v_pick_f rfl g32 rfl) ?_
    refine wl_nil ?_
    refine wc_cond_f rfl ?_
    refine wc_skip ?_
    refine wcR ?_
    refine wA ?_
    refine wl_nil ?_
    refine wc_ret ?_
    first
      | exact ⟨_, res1 rfl rfl, congrArg Value.bool (dec_eq ⟨fun hd => ⟨by omega, by have := of_decide_eq_true hd; omega, fun j hj => ha j (by omega)⟩, fun hh => decide_eq_true (by obtain ⟨h5, h6, _⟩ := hh; omega)⟩), H.pm (by repeat constructor)⟩
      | exact ⟨_, res1 rfl rfl, congrArg Value.bool (dec_f fun hh => by have h5 := hh.2.2 i (by omega); unfold chOk at h5; omega).symm, H.pm (by repeat constructor)⟩
      | exact ⟨_, res1 rfl rfl, congrArg Value.bool (dec_t ⟨by omega, by omega, fun j hj => ha j (by omega)⟩).symm, H.pm (by repeat constructor)⟩
      | exact ⟨_, res1 rfl rfl, congrArg Value.bool (dec_f fun hh => by obtain ⟨h5, h6, _⟩ := hh; omega).symm, H.pm (by repeat constructor)⟩
   have g35p := oT g35
   refine wM ?_
   refine wO g35 ?_
   refine wV (v_geq rfl rfl) ?_
   refine wO g32 ?_
   refine wV (v_pick_t rfl g35 rfl) ?_
   refine wO g32 ?_
   refine wM ?_
   refine wl_guard rfl rfl rfl (fun g39 => ?_) (fun g39 => ?_)
   rotate_left
   ·have g39p := oF g39
    refine wF g39 ?_
    refine wO g32 ?_
    refine wV (v_pick_f rfl g39 rfl) ?_
    refine wV (v_pick_f rfl g32 rfl) ?_
    refine wl_nil ?_
    refine wc_cond_f rfl ?_
    refine wc_skip ?_
    refine wcR ?_
    refine wA ?_
    refine wl_nil ?_
    refine wc_ret ?_
    first
      | exact ⟨_, res1 rfl rfl, congrArg Value.bool (dec_eq ⟨fun hd => ⟨by omega, by have := of_decide_eq_true hd; omega, fun j hj => ha j (by omega)⟩, fun hh => decide_eq_true (by obtain ⟨h5, h6, _⟩ := hh; omega)⟩), H.pm (by repeat constructor)⟩
      | exact ⟨_, res1 rfl rfl, congrArg Value.bool (dec_f fun hh => by have h5 := hh.2.2 i (by omega); unfold chOk at h5; omega).symm, H.pm (by repeat constructor)⟩
      | exact ⟨_, res1 rfl rfl, congrArg Value.bool (dec_t ⟨by omega, by omega, fun j hj => ha j (by omega)⟩).symm, H.pm (by repeat constructor)⟩
      | exact ⟨_, res1 rfl rfl, congrArg Value.bool (dec_f fun hh => by obtain ⟨h5, h6, _⟩ := hh; omega).symm, H.pm (by repeat constructor)⟩
   have g39p := oT g39
   refine wM ?_
   refine wO g39 ?_
   refine wV (v_leq rfl rfl) ?_
   refine wO g32 ?_
   refine wV (v_pick_t rfl g39 rfl) ?_
   refine wV (v_pick_f rfl g32 rfl) ?_
   refine wl_nil ?_
   refine wc_cond rfl (fun c1 => ?_) (fun c1 => ?_)
   ·have c1p := oT c1
    refine wc_exit ?_
    refine wc_region ?_
    refine wM ?_
    refine wV (v_addi rfl rfl (by omega)) ?_
    refine wA ?_
    refine wl_nil ?_
    exact ⟨i + 1, (sc rfl (sc rfl (sn _))), ⟨by omega, upto_succ ha (by unfold chOk; omega), H.pm (by repeat constructor)⟩, by omega⟩
   have c1p := oF c1
   refine wc_skip ?_
   refine wcR ?_
   refine wA ?_
   refine wl_nil ?_
   refine wc_ret ?_
   first
     | exact ⟨_, res1 rfl rfl, congrArg Value.bool (dec_eq ⟨fun hd => ⟨by omega, by have := of_decide_eq_true hd; omega, fun j hj => ha j (by omega)⟩, fun hh => decide_eq_true (by obtain ⟨h5, h6, _⟩ := hh; omega)⟩), H.pm (by repeat constructor)⟩
     | exact ⟨_, res1 rfl rfl, congrArg Value.bool (dec_f fun hh => by have h5 := hh.2.2 i (by omega); unfold chOk at h5; omega).symm, H.pm (by repeat constructor)⟩
     | exact ⟨_, res1 rfl rfl, congrArg Value.bool (dec_t ⟨by omega, by omega, fun j hj => ha j (by omega)⟩).symm, H.pm (by repeat constructor)⟩
     | exact ⟨_, res1 rfl rfl, congrArg Value.bool (dec_f fun hh => by obtain ⟨h5, h6, _⟩ := hh; omega).symm, H.pm (by repeat constructor)⟩
  have g23p := oT g23
  refine wM ?_
  refine wO g23 ?_
  refine wV (v_leq rfl rfl) ?_
  refine wO g20 ?_
  refine wV (v_pick_t rfl g23 rfl) ?_
  refine wV (v_pick_f rfl g20 rfl) ?_
  refine wM ?_
  refine wl_guard rfl rfl rfl (fun g28 => ?_) (fun g28 => ?_)
  rotate_left
  ·have g28p := oT g28
   refine wF g28 ?_
   refine wV (v_pick_t rfl g28 rfl) ?_
   refine wM ?_
   refine wF rfl ?_
   refine wF rfl ?_
   refine wF rfl ?_
   refine wl_offu rfl rfl rfl ?_
   refine wl_offu rfl rfl rfl ?_
   refine wF rfl ?_
   refine wF rfl ?_
   refine wl_offu rfl rfl rfl ?_
   refine wl_offu rfl rfl rfl ?_
   refine wF rfl ?_
   refine wV (v_pick_t rfl rfl rfl) ?_
   refine wl_nil ?_
   refine wc_cond_t rfl ?_
   refine wc_exit ?_
   refine wc_region ?_
   refine wM ?_
   refine wV (v_addi rfl rfl (by omega)) ?_
   refine wA ?_
   refine wl_nil ?_
   exact ⟨i + 1, (sc rfl (sc rfl (sn _))), ⟨by omega, upto_succ ha (by unfold chOk; omega), H.pm (by repeat constructor)⟩, by omega⟩
  have g28p := oF g28
  refine wM ?_
  refine wO g28 ?_
  refine wV (v_eql rfl rfl) ?_
  refine wV (v_pick_f rfl g28 rfl) ?_
  refine wM ?_
  refine wl_guard rfl rfl rfl (fun g32 => ?_) (fun g32 => ?_)
  rotate_left
  ·have g32p := oT g32
   refine wF g32 ?_
   refine wF g32 ?_
   refine wl_offu rfl rfl rfl ?_
   refine wl_offu rfl rfl rfl ?_
   refine wF g32 ?_
   refine wF g32 ?_
   refine wl_offu rfl rfl rfl ?_
   refine wl_offu rfl rfl rfl ?_
   refine wF g32 ?_
   refine wV (v_pick_t rfl g32 rfl) ?_
   refine wl_nil ?_
   refine wc_cond_t rfl ?_
   refine wc_exit ?_
   refine wc_region ?_
   refine wM ?_
   refine wV (v_addi rfl rfl (by omega)) ?_
   refine wA ?_
   refine wl_nil ?_
   exact ⟨i + 1, (sc rfl (sc rfl (sn _))), ⟨by omega, upto_succ ha (by unfold chOk; omega), H.pm (by repeat constructor)⟩, by omega⟩
  have g32p := oF g32
  refine wM ?_
  refine wO g32 ?_
  refine wV (v_gtr rfl rfl) ?_
  refine wO g32 ?_
  refine wM ?_
  refine wl_guard rfl rfl rfl (fun g35 => ?_) (fun g35 => ?_)
  rotate_left
  ·have g35p := oF g35
   refine wF g35 ?_
   refine wO g32 ?_
   refine wV (v_pick_f rfl g35 rfl) ?_
   refine wO g32 ?_
   refine wM ?_
   refine wF rfl ?_
   refine wF rfl ?_
   refine wO g32 ?_
   refine wV (v_pick_f rfl rfl rfl) ?_
   refine wV (v_pick_f rfl g32 rfl) ?_
   refine wl_nil ?_
   refine wc_cond_f rfl ?_
   refine wc_skip ?_
   refine wcR ?_
   refine wA ?_
   refine wl_nil ?_
   refine wc_ret ?_
   first
     | exact ⟨_, res1 rfl rfl, congrArg Value.bool (dec_eq ⟨fun hd => ⟨by omega, by have := of_decide_eq_true hd; omega, fun j hj => ha j (by omega)⟩, fun hh => decide_eq_true (by obtain ⟨h5, h6, _⟩ := hh; omega)⟩), H.pm (by repeat constructor)⟩
     | exact ⟨_, res1 rfl rfl, congrArg Value.bool (dec_f fun hh => by have h5 := hh.2.2 i (by omega); unfold chOk at h5; omega).symm, H.pm (by repeat constructor)⟩
     | exact ⟨_, res1 rfl rfl, congrArg Value.bool (dec_t ⟨by omega, by omega, fun j hj => ha j (by omega)⟩).symm, H.pm (by repeat constructor)⟩
     | exact ⟨_, res1 rfl rfl, congrArg Value.bool (dec_f fun hh => by obtain ⟨h5, h6, _⟩ := hh; omega).symm, H.pm (by repeat constructor)⟩
  have g35p := oT g35
  refine wM ?_
  refine wO g35 ?_
  refine wV (v_geq rfl rfl) ?_
  refine wO g32 ?_
  refine wV (v_pick_t rfl g35 rfl) ?_
  refine wO g32 ?_
  refine wM ?_
  refine wl_guard rfl rfl rfl (fun g39 => ?_) (fun g39 => ?_)
  rotate_left
  ·have g39p := oF g39
   refine wF g39 ?_
   refine wO g32 ?_
   refine wV (v_pick_f rfl g39 rfl) ?_
   refine wV (v_pick_f rfl g32 rfl) ?_
   refine wl_nil ?_
   refine wc_cond_f rfl ?_
   refine wc_skip ?_
   refine wcR ?_
   refine wA ?_
   refine wl_nil ?_
   refine wc_ret ?_
   first
     | exact ⟨_, res1 rfl rfl, congrArg Value.bool (dec_eq ⟨fun hd => ⟨by omega, by have := of_decide_eq_true hd; omega, fun j hj => ha j (by omega)⟩, fun hh => decide_eq_true (by obtain ⟨h5, h6, _⟩ := hh; omega)⟩), H.pm (by repeat constructor)⟩
     | exact ⟨_, res1 rfl rfl, congrArg Value.bool (dec_f fun hh => by have h5 := hh.2.2 i (by omega); unfold chOk at h5; omega).symm, H.pm (by repeat constructor)⟩
     | exact ⟨_, res1 rfl rfl, congrArg Value.bool (dec_t ⟨by omega, by omega, fun j hj => ha j (by omega)⟩).symm, H.pm (by repeat constructor)⟩
     | exact ⟨_, res1 rfl rfl, congrArg Value.bool (dec_f fun hh => by obtain ⟨h5, h6, _⟩ := hh; omega).symm, H.pm (by repeat constructor)⟩
  have g39p := oT g39
  refine wM ?_
  refine wO g39 ?_
  refine wV (v_leq rfl rfl) ?_
  refine wO g32 ?_
  refine wV (v_pick_t rfl g39 rfl) ?_
  refine wV (v_pick_f rfl g32 rfl) ?_
  refine wl_nil ?_
  refine wc_cond rfl (fun c1 => ?_) (fun c1 => ?_)
  ·have c1p := oT c1
   refine wc_exit ?_
   refine wc_region ?_
   refine wM ?_
   refine wV (v_addi rfl rfl (by omega)) ?_
   refine wA ?_
   refine wl_nil ?_
   exact ⟨i + 1, (sc rfl (sc rfl (sn _))), ⟨by omega, upto_succ ha (by unfold chOk; omega), H.pm (by repeat constructor)⟩, by omega⟩
  have c1p := oF c1
  refine wc_skip ?_
  refine wcR ?_
  refine wA ?_
  refine wl_nil ?_
  refine wc_ret ?_
  first
    | exact ⟨_, res1 rfl rfl, congrArg Value.bool (dec_eq ⟨fun hd => ⟨by omega, by have := of_decide_eq_true hd; omega, fun j hj => ha j (by omega)⟩, fun hh => decide_eq_true (by obtain ⟨h5, h6, _⟩ := hh; omega)⟩), H.pm (by repeat constructor)⟩
    | exact ⟨_, res1 rfl rfl, congrArg Value.bool (dec_f fun hh => by have h5 := hh.2.2 i (by omega); unfold chOk at h5; omega).symm, H.pm (by repeat constructor)⟩
    | exact ⟨_, res1 rfl rfl, congrArg Value.bool (dec_t ⟨by omega, by omega, fun j hj => ha j (by omega)⟩).symm, H.pm (by repeat constructor)⟩
    | exact ⟨_, res1 rfl rfl, congrArg Value.bool (dec_f fun hh => by obtain ⟨h5, h6, _⟩ := hh; omega).symm, H.pm (by repeat constructor)⟩

set_option maxHeartbeats 1600000 in
set_option maxRecDepth 100000 in
theorem rname_calls {s : ByteArray} {w : World} (hs : s.size ≤ 1099511627776) : Calls Try.prog 95 #[.string s] w fun e w' => ∃ v, e = .returned v ∧ v = .bool (dec (NameOk 64 s)) ∧ Holds w [] w' := by
  refine calls_of Try.func95 rfl Try.ntmps95 rfl ?_
  have H := Holds.start w
  refine wcR ?_
  refine wA ?_
  refine wl_nil ?_
  refine wc_seq ?_
  refine wcR ?_
  refine wM ?_
  refine wV (v_lens Try.underlying9 rfl) ?_
  refine wV (v_lss rfl rfl) ?_
  refine wM ?_
  refine wl_guard rfl rfl rfl (fun g9 => ?_) (fun g9 => ?_)
  rotate_left
  ·have g9p := oT g9
   refine wF g9 ?_
   refine wF g9 ?_
   refine wV (v_pick_t rfl g9 rfl) ?_
   refine wl_nil ?_
   refine wc_cond_t rfl ?_
   refine wcR ?_
   refine wA ?_
   refine wl_nil ?_
   refine wc_ret ?_
   first
     | exact ⟨_, res1 rfl rfl, congrArg Value.bool (dec_eq ⟨fun hd => ⟨by omega, by have := of_decide_eq_true hd; omega, fun j hj => ha j (by omega)⟩, fun hh => decide_eq_true (by obtain ⟨h5, h6, _⟩ := hh; omega)⟩), H.pm (by repeat constructor)⟩
     | exact ⟨_, res1 rfl rfl, congrArg Value.bool (dec_f fun hh => by have h5 := hh.2.2 i (by omega); unfold chOk at h5; omega).symm, H.pm (by repeat constructor)⟩
     | exact ⟨_, res1 rfl rfl, congrArg Value.bool (dec_t ⟨by omega, by omega, fun j hj => ha j (by omega)⟩).symm, H.pm (by repeat constructor)⟩
     | exact ⟨_, res1 rfl rfl, congrArg Value.bool (dec_f fun hh => by obtain ⟨h5, h6, _⟩ := hh; omega).symm, H.pm (by repeat constructor)⟩
  have g9p := oF g9
  refine wM ?_
  refine wO g9 ?_
  refine wV (v_lens Try.underlying9 rfl) ?_
  refine wO g9 ?_
  refine wV (v_gtr rfl rfl) ?_
  refine wV (v_pick_f rfl g9 rfl) ?_
  refine wl_nil ?_
  refine wc_cond rfl (fun c0 => ?_) (fun c0 => ?_)
  ·have c0p := oT c0
   refine wcR ?_
   refine wA ?_
   refine wl_nil ?_
   refine wc_ret ?_
   first
     | exact ⟨_, res1 rfl rfl, congrArg Value.bool (dec_eq ⟨fun hd => ⟨by omega, by have := of_decide_eq_true hd; omega, fun j hj => ha j (by omega)⟩, fun hh => decide_eq_true (by obtain ⟨h5, h6, _⟩ := hh; omega)⟩), H.pm (by repeat constructor)⟩
     | exact ⟨_, res1 rfl rfl, congrArg Value.bool (dec_f fun hh => by have h5 := hh.2.2 i (by omega); unfold chOk at h5; omega).symm, H.pm (by repeat constructor)⟩
     | exact ⟨_, res1 rfl rfl, congrArg Value.bool (dec_t ⟨by omega, by omega, fun j hj => ha j (by omega)⟩).symm, H.pm (by repeat constructor)⟩
     | exact ⟨_, res1 rfl rfl, congrArg Value.bool (dec_f fun hh => by obtain ⟨h5, h6, _⟩ := hh; omega).symm, H.pm (by repeat constructor)⟩
  have c0p := oF c0
  refine wc_skip ?_
  refine wc_seq ?_
  refine wcR ?_
  refine wA ?_
  refine wl_nil ?_
  refine wc_block ?_
  refine wc_loop (σ := Nat) (fun q => [(0, .string s), (3, .int .i64 q)]) (fun q W => q ≤ s.size ∧ (∀ j, j < q → chOk j (byt s j)) ∧ Holds w [] W) (fun q => s.size - q) 0 (sc rfl (sc rfl (sn _))) ⟨Nat.zero_le _, upto_zero, H⟩ ?_
  rintro i W0 ⟨hi, ha, H⟩
  refine wc_seq ?_
  refine wcR ?_
  refine wM ?_
  refine wM ?_
  refine wV (v_lens Try.underlying9 rfl) ?_
  refine wV (v_lss rfl rfl) ?_
  refine wl_nil ?_
  refine wc_cond rfl (fun c1 => ?_) (fun c1 => ?_)
  rotate_left
  ·have c1p := oF c1
   refine wc_exit ?_
   refine wcR ?_
   refine wA ?_
   refine wl_nil ?_
   refine wc_ret ?_
   first
     | exact ⟨_, res1 rfl rfl, congrArg Value.bool (dec_eq ⟨fun hd => ⟨by omega, by have := of_decide_eq_true hd; omega, fun j hj => ha j (by omega)⟩, fun hh => decide_eq_true (by obtain ⟨h5, h6, _⟩ := hh; omega)⟩), H.pm (by repeat constructor)⟩
     | exact ⟨_, res1 rfl rfl, congrArg Value.bool (dec_f fun hh => by have h5 := hh.2.2 i (by omega); unfold chOk at h5; omega).symm, H.pm (by repeat constructor)⟩
     | exact ⟨_, res1 rfl rfl, congrArg Value.bool (dec_t ⟨by omega, by omega, fun j hj => ha j (by omega)⟩).symm, H.pm (by repeat constructor)⟩
     | exact ⟨_, res1 rfl rfl, congrArg Value.bool (dec_f fun hh => by obtain ⟨h5, h6, _⟩ := hh; omega).symm, H.pm (by repeat constructor)⟩
  have c1p := oT c1
  refine wc_skip ?_
  refine wc_seq ?_
  refine wc_block ?_
  refine wcR ?_
  refine wM ?_
  refine wM ?_
  refine wV (v_idxs (i := i) (s := s) Try.underlying9 rfl rfl (by omega)) ?_
  refine wA ?_
  refine wl_nil ?_
  refine wcR ?_
  refine wM ?_
  refine wV (v_eql rfl rfl) ?_
  refine wM ?_
  refine wl_guard rfl rfl rfl (fun g25 => ?_) (fun g25 => ?_)
  rotate_left
  ·have g25p := oT g25
   refine wF g25 ?_
   refine wF g25 ?_
   refine wl_offu rfl rfl rfl ?_
   refine wl_offu rfl rfl rfl ?_
   refine wF g25 ?_
   refine wV (v_pick_t rfl g25 rfl) ?_
   refine wM ?_
   refine wF rfl ?_
   refine wF rfl ?_
   refine wF rfl ?_
   refine wl_offu rfl rfl rfl ?_
   refine wl_offu rfl rfl rfl ?_
   refine wF rfl ?_
   refine wV (v_pick_t rfl rfl rfl) ?_
   refine wA ?_
   refine wl_nil ?_
   refine wcR ?_
   refine wM ?_
   refine wV (v_not rfl) ?_
   refine wM ?_
   refine wF rfl ?_
   refine wF rfl ?_
   refine wF rfl ?_
   refine wl_offu rfl rfl rfl ?_
   refine wl_offu rfl rfl rfl ?_
   refine wF rfl ?_
   refine wF rfl ?_
   refine wl_offu rfl rfl rfl ?_
   refine wl_offu rfl rfl rfl ?_
   refine wF rfl ?_
   refine wV (v_pick_f rfl rfl rfl) ?_
   refine wl_nil ?_
   refine wc_cond_f rfl ?_
   refine wc_skip ?_
   refine wc_region ?_
   refine wM ?_
   refine wV (v_addi rfl rfl (by omega)) ?_
   refine wA ?_
   refine wl_nil ?_
   exact ⟨i + 1, (sc rfl (sc rfl (sn _))), ⟨by omega, upto_succ ha (by unfold chOk; omega), H.pm (by repeat constructor)⟩, by omega⟩
  have g25p := oF g25
  refine wM ?_
  refine wO g25 ?_
  refine wV (v_geq rfl rfl) ?_
  refine wO g25 ?_
  refine wM ?_
  refine wl_guard rfl rfl rfl (fun g28 => ?_) (fun g28 => ?_)
  rotate_left
  ·have g28p := oF g28
   refine wF g28 ?_
   refine wO g25 ?_
   refine wV (v_pick_f rfl g28 rfl) ?_
   refine wV (v_pick_f rfl g25 rfl) ?_
   refine wM ?_
   refine wO rfl ?_
   refine wM ?_
   refine wO rfl ?_
   refine wV (v_geq rfl rfl) ?_
   refine wO rfl ?_
   refine wM ?_
   refine wl_guard rfl rfl rfl (fun g36 => ?_) (fun g36 => ?_)
   rotate_left
   ·have g36p := oF g36
    refine wF g36 ?_
    refine wO rfl ?_
    refine wV (v_pick_f rfl g36 rfl) ?_
    refine wV (v_pick_f rfl rfl rfl) ?_
    refine wA ?_
    refine wl_nil ?_
    refine wcR ?_
    refine wM ?_
    refine wV (v_not rfl) ?_
    refine wM ?_
    refine wO rfl ?_
    refine wM ?_
    refine wO rfl ?_
    refine wV (v_eql rfl rfl) ?_
    refine wO rfl ?_
    refine wM ?_
    refine wl_guard rfl rfl rfl (fun g46 => ?_) (fun g46 => ?_)
    rotate_left
    ·have g46p := oT g46
     refine wF g46 ?_
     refine wO rfl ?_
     refine wV (v_pick_t rfl g46 rfl) ?_
     refine wO rfl ?_
     refine wM ?_
     refine wF rfl ?_
     refine wF rfl ?_
     refine wO rfl ?_
     refine wV (v_pick_t rfl rfl rfl) ?_
     refine wV (v_pick_t rfl rfl rfl) ?_
     refine wl_nil ?_
     refine wc_cond_t rfl ?_
     refine wcR ?_
     refine wA ?_
     refine wl_nil ?_
     refine wc_ret ?_
     first
       | exact ⟨_, res1 rfl rfl, congrArg Value.bool (dec_eq ⟨fun hd => ⟨by omega, by have := of_decide_eq_true hd; omega, fun j hj => ha j (by omega)⟩, fun hh => decide_eq_true (by obtain ⟨h5, h6, _⟩ := hh; omega)⟩), H.pm (by repeat constructor)⟩
       | exact ⟨_, res1 rfl rfl, congrArg Value.bool (dec_f fun hh => by have h5 := hh.2.2 i (by omega); unfold chOk at h5; omega).symm, H.pm (by repeat constructor)⟩
       | exact ⟨_, res1 rfl rfl, congrArg Value.bool (dec_t ⟨by omega, by omega, fun j hj => ha j (by omega)⟩).symm, H.pm (by repeat constructor)⟩
       | exact ⟨_, res1 rfl rfl, congrArg Value.bool (dec_f fun hh => by obtain ⟨h5, h6, _⟩ := hh; omega).symm, H.pm (by repeat constructor)⟩
    have g46p := oF g46
    refine wM ?_
    refine wO g46 ?_
    refine wV (v_lss rfl rfl) ?_
    refine wO rfl ?_
    refine wV (v_pick_f rfl g46 rfl) ?_
    refine wO rfl ?_
    refine wM ?_
    refine wl_guard rfl rfl rfl (fun g50 => ?_) (fun g50 => ?_)
    rotate_left
    ·have g50p := oT g50
     refine wF g50 ?_
     refine wO rfl ?_
     refine wV (v_pick_t rfl g50 rfl) ?_
     refine wV (v_pick_t rfl rfl rfl) ?_
     refine wl_nil ?_
     refine wc_cond_t rfl ?_
     refine wcR ?_
     refine wA ?_
     refine wl_nil ?_
     refine wc_ret ?_
     first
       | exact ⟨_, res1 rfl rfl, congrArg Value.bool (dec_eq ⟨fun hd => ⟨by omega, by have := of_decide_eq_true hd; omega, fun j hj => ha j (by omega)⟩, fun hh => decide_eq_true (by obtain ⟨h5, h6, _⟩ := hh; omega)⟩), H.pm (by repeat constructor)⟩
       | exact ⟨_, res1 rfl rfl, congrArg Value.bool (dec_f fun hh => by have h5 := hh.2.2 i (by omega); unfold chOk at h5; omega).symm, H.pm (by repeat constructor)⟩
       | exact ⟨_, res1 rfl rfl, congrArg Value.bool (dec_t ⟨by omega, by omega, fun j hj => ha j (by omega)⟩).symm, H.pm (by repeat constructor)⟩
       | exact ⟨_, res1 rfl rfl, congrArg Value.bool (dec_f fun hh => by obtain ⟨h5, h6, _⟩ := hh; omega).symm, H.pm (by repeat constructor)⟩
    have g50p := oF g50
    refine wM ?_
    refine wO g50 ?_
    refine wV (v_gtr rfl rfl) ?_
    refine wO rfl ?_
    refine wV (v_pick_f rfl g50 rfl) ?_
    refine wV (v_pick_t rfl rfl rfl) ?_
    refine wl_nil ?_
    refine wc_cond rfl (fun c2 => ?_) (fun c2 => ?_)
    rotate_left
    ·have c2p := oF c2
     refine wc_skip ?_
     refine wc_region ?_
     refine wM ?_
     refine wV (v_addi rfl rfl (by omega)) ?_
     refine wA ?_
     refine wl_nil ?_
     exact ⟨i + 1, (sc rfl (sc rfl (sn _))), ⟨by omega, upto_succ ha (by unfold chOk; omega), H.pm (by repeat constructor)⟩, by omega⟩
    have c2p := oT c2
    refine wcR ?_
    refine wA ?_
    refine wl_nil ?_
    refine wc_ret ?_
    first
      | exact ⟨_, res1 rfl rfl, congrArg Value.bool (dec_eq ⟨fun hd => ⟨by omega, by have := of_decide_eq_true hd; omega, fun j hj => ha j (by omega)⟩, fun hh => decide_eq_true (by obtain ⟨h5, h6, _⟩ := hh; omega)⟩), H.pm (by repeat constructor)⟩
      | exact ⟨_, res1 rfl rfl, congrArg Value.bool (dec_f fun hh => by have h5 := hh.2.2 i (by omega); unfold chOk at h5; omega).symm, H.pm (by repeat constructor)⟩
      | exact ⟨_, res1 rfl rfl, congrArg Value.bool (dec_t ⟨by omega, by omega, fun j hj => ha j (by omega)⟩).symm, H.pm (by repeat constructor)⟩
      | exact ⟨_, res1 rfl rfl, congrArg Value.bool (dec_f fun hh => by obtain ⟨h5, h6, _⟩ := hh; omega).symm, H.pm (by repeat constructor)⟩
   have g36p := oT g36
   refine wM ?_
   refine wO g36 ?_
   refine wV (v_leq rfl rfl) ?_
   refine wO rfl ?_
   refine wV (v_pick_t rfl g36 rfl) ?_
   refine wV (v_pick_f rfl rfl rfl) ?_
   refine wA ?_
   refine wl_nil ?_
   refine wcR ?_
   refine wM ?_
   refine wV (v_not rfl) ?_
   refine wM ?_
   refine wl_guard rfl rfl rfl (fun g43 => ?_) (fun g43 => ?_)
   rotate_left
   ·have g43p := of_nd_f g43
    refine wF g43 ?_
    refine wF g43 ?_
    refine wl_offu rfl rfl rfl ?_
    refine wl_offu rfl rfl rfl ?_
    refine wF g43 ?_
    refine wF g43 ?_
    refine wl_offu rfl rfl rfl ?_
    refine wl_offu rfl rfl rfl ?_
    refine wF g43 ?_
    refine wV (v_pick_f rfl g43 rfl) ?_
    refine wl_nil ?_
    refine wc_cond_f rfl ?_
    refine wc_skip ?_
    refine wc_region ?_
    refine wM ?_
    refine wV (v_addi rfl rfl (by omega)) ?_
    refine wA ?_
    refine wl_nil ?_
    exact ⟨i + 1, (sc rfl (sc rfl (sn _))), ⟨by omega, upto_succ ha (by unfold chOk; omega), H.pm (by repeat constructor)⟩, by omega⟩
   have g43p := of_nd_t g43
   refine wM ?_
   refine wO g43 ?_
   refine wV (v_eql rfl rfl) ?_
   refine wO g43 ?_
   refine wM ?_
   refine wl_guard rfl rfl rfl (fun g46 => ?_) (fun g46 => ?_)
   rotate_left
   ·have g46p := oT g46
    refine wF g46 ?_
    refine wO g43 ?_
    refine wV (v_pick_t rfl g46 rfl) ?_
    refine wO g43 ?_
    refine wM ?_
    refine wF rfl ?_
    refine wF rfl ?_
    refine wO g43 ?_
    refine wV (v_pick_t rfl rfl rfl) ?_
    refine wV (v_pick_t rfl g43 rfl) ?_
    refine wl_nil ?_
    refine wc_cond_t rfl ?_
    refine wcR ?_
    refine wA ?_
    refine wl_nil ?_
    refine wc_ret ?_
    first
      | exact ⟨_, res1 rfl rfl, congrArg Value.bool (dec_eq ⟨fun hd => ⟨by omega, by have := of_decide_eq_true hd; omega, fun j hj => ha j (by omega)⟩, fun hh => decide_eq_true (by obtain ⟨h5, h6, _⟩ := hh; omega)⟩), H.pm (by repeat constructor)⟩
      | exact ⟨_, res1 rfl rfl, congrArg Value.bool (dec_f fun hh => by have h5 := hh.2.2 i (by omega); unfold chOk at h5; omega).symm, H.pm (by repeat constructor)⟩
      | exact ⟨_, res1 rfl rfl, congrArg Value.bool (dec_t ⟨by omega, by omega, fun j hj => ha j (by omega)⟩).symm, H.pm (by repeat constructor)⟩
      | exact ⟨_, res1 rfl rfl, congrArg Value.bool (dec_f fun hh => by obtain ⟨h5, h6, _⟩ := hh; omega).symm, H.pm (by repeat constructor)⟩
   have g46p := oF g46
   refine wM ?_
   refine wO g46 ?_
   refine wV (v_lss rfl rfl) ?_
   refine wO g43 ?_
   refine wV (v_pick_f rfl g46 rfl) ?_
   refine wO g43 ?_
   refine wM ?_
   refine wl_guard rfl rfl rfl (fun g50 => ?_) (fun g50 => ?_)
   rotate_left
   ·have g50p := oT g50
    refine wF g50 ?_
    refine wO g43 ?_
    refine wV (v_pick_t rfl g50 rfl) ?_
    refine wV (v_pick_t rfl g43 rfl) ?_
    refine wl_nil ?_
    refine wc_cond_t rfl ?_
    refine wcR ?_
    refine wA ?_
    refine wl_nil ?_
    refine wc_ret ?_
    first
      | exact ⟨_, res1 rfl rfl, congrArg Value.bool (dec_eq ⟨fun hd => ⟨by omega, by have := of_decide_eq_true hd; omega, fun j hj => ha j (by omega)⟩, fun hh => decide_eq_true (by obtain ⟨h5, h6, _⟩ := hh; omega)⟩), H.pm (by repeat constructor)⟩
      | exact ⟨_, res1 rfl rfl, congrArg Value.bool (dec_f fun hh => by have h5 := hh.2.2 i (by omega); unfold chOk at h5; omega).symm, H.pm (by repeat constructor)⟩
      | exact ⟨_, res1 rfl rfl, congrArg Value.bool (dec_t ⟨by omega, by omega, fun j hj => ha j (by omega)⟩).symm, H.pm (by repeat constructor)⟩
      | exact ⟨_, res1 rfl rfl, congrArg Value.bool (dec_f fun hh => by obtain ⟨h5, h6, _⟩ := hh; omega).symm, H.pm (by repeat constructor)⟩
   have g50p := oF g50
   refine wM ?_
   refine wO g50 ?_
   refine wV (v_gtr rfl rfl) ?_
   refine wO g43 ?_
   refine wV (v_pick_f rfl g50 rfl) ?_
   refine wV (v_pick_t rfl g43 rfl) ?_
   refine wl_nil ?_
   refine wc_cond rfl (fun c2 => ?_) (fun c2 => ?_)
   rotate_left
   ·have c2p := oF c2
    refine wc_skip ?_
    refine wc_region ?_
    refine wM ?_
    refine wV (v_addi rfl rfl (by omega)) ?_
    refine wA ?_
    refine wl_nil ?_
    exact ⟨i + 1, (sc rfl (sc rfl (sn _))), ⟨by omega, upto_succ ha (by unfold chOk; omega), H.pm (by repeat constructor)⟩, by omega⟩
   have c2p := oT c2
   refine wcR ?_
   refine wA ?_
   refine wl_nil ?_
   refine wc_ret ?_
   first
     | exact ⟨_, res1 rfl rfl, congrArg Value.bool (dec_eq ⟨fun hd => ⟨by omega, by have := of_decide_eq_true hd; omega, fun j hj => ha j (by omega)⟩, fun hh => decide_eq_true (by obtain ⟨h5, h6, _⟩ := hh; omega)⟩), H.pm (by repeat constructor)⟩
     | exact ⟨_, res1 rfl rfl, congrArg Value.bool (dec_f fun hh => by have h5 := hh.2.2 i (by omega); unfold chOk at h5; omega).symm, H.pm (by repeat constructor)⟩
     | exact ⟨_, res1 rfl rfl, congrArg Value.bool (dec_t ⟨by omega, by omega, fun j hj => ha j (by omega)⟩).symm, H.pm (by repeat constructor)⟩
     | exact ⟨_, res1 rfl rfl, congrArg Value.bool (dec_f fun hh => by obtain ⟨h5, h6, _⟩ := hh; omega).symm, H.pm (by repeat constructor)⟩
  have g28p := oT g28
  refine wM ?_
  refine wO g28 ?_
  refine wV (v_leq rfl rfl) ?_
  refine wO g25 ?_
  refine wV (v_pick_t rfl g28 rfl) ?_
  refine wV (v_pick_f rfl g25 rfl) ?_
  refine wM ?_
  refine wl_guard rfl rfl rfl (fun g33 => ?_) (fun g33 => ?_)
  rotate_left
  ·have g33p := oT g33
   refine wF g33 ?_
   refine wF g33 ?_
   refine wl_offu rfl rfl rfl ?_
   refine wl_offu rfl rfl rfl ?_
   refine wF g33 ?_
   refine wV (v_pick_t rfl g33 rfl) ?_
   refine wA ?_
   refine wl_nil ?_
   refine wcR ?_
   refine wM ?_
   refine wV (v_not rfl) ?_
   refine wM ?_
   refine wF rfl ?_
   refine wF rfl ?_
   refine wF rfl ?_
   refine wl_offu rfl rfl rfl ?_
   refine wl_offu rfl rfl rfl ?_
   refine wF rfl ?_
   refine wF rfl ?_
   refine wl_offu rfl rfl rfl ?_
   refine wl_offu rfl rfl rfl ?_
   refine wF rfl ?_
   refine wV (v_pick_f rfl rfl rfl) ?_
   refine wl_nil ?_
   refine wc_cond_f rfl ?_
   refine wc_skip ?_
   refine wc_region ?_
   refine wM ?_
   refine wV (v_addi rfl rfl (by omega)) ?_
   refine wA ?_
   refine wl_nil ?_
   exact ⟨i + 1, (sc rfl (sc rfl (sn _))), ⟨by omega, upto_succ ha (by unfold chOk; omega), H.pm (by repeat constructor)⟩, by omega⟩
  have g33p := oF g33
  refine wM ?_
  refine wO g33 ?_
  refine wV (v_geq rfl rfl) ?_
  refine wO g33 ?_
  refine wM ?_
  refine wl_guard rfl rfl rfl (fun g36 => ?_) (fun g36 => ?_)
  rotate_left
  ·have g36p := oF g36
   refine wF g36 ?_
   refine wO g33 ?_
   refine wV (v_pick_f rfl g36 rfl) ?_
   refine wV (v_pick_f rfl g33 rfl) ?_
   refine wA ?_
   refine wl_nil ?_
   refine wcR ?_
   refine wM ?_
   refine wV (v_not rfl) ?_
   refine wM ?_
   refine wO rfl ?_
   refine wM ?_
   refine wO rfl ?_
   refine wV (v_eql rfl rfl) ?_
   refine wO rfl ?_
   refine wM ?_
   refine wl_guard rfl rfl rfl (fun g46 => ?_) (fun g46 => ?_)
   rotate_left
   ·have g46p := oT g46
    refine wF g46 ?_
    refine wO rfl ?_
    refine wV (v_pick_t rfl g46 rfl) ?_
    refine wO rfl ?_
    refine wM ?_
    refine wF rfl ?_
    refine wF rfl ?_
    refine wO rfl ?_
    refine wV (v_pick_t rfl rfl rfl) ?_
    refine wV (v_pick_t rfl rfl rfl) ?_
    refine wl_nil ?_
    refine wc_cond_t rfl ?_
    refine wcR ?_
    refine wA ?_
    refine wl_nil ?_
    refine wc_ret ?_
    first
      | exact ⟨_, res1 rfl rfl, congrArg Value.bool (dec_eq ⟨fun hd => ⟨by omega, by have := of_decide_eq_true hd; omega, fun j hj => ha j (by omega)⟩, fun hh => decide_eq_true (by obtain ⟨h5, h6, _⟩ := hh; omega)⟩), H.pm (by repeat constructor)⟩
      | exact ⟨_, res1 rfl rfl, congrArg Value.bool (dec_f fun hh => by have h5 := hh.2.2 i (by omega); unfold chOk at h5; omega).symm, H.pm (by repeat constructor)⟩
      | exact ⟨_, res1 rfl rfl, congrArg Value.bool (dec_t ⟨by omega, by omega, fun j hj => ha j (by omega)⟩).symm, H.pm (by repeat constructor)⟩
      | exact ⟨_, res1 rfl rfl, congrArg Value.bool (dec_f fun hh => by obtain ⟨h5, h6, _⟩ := hh; omega).symm, H.pm (by repeat constructor)⟩
   have g46p := oF g46
   refine wM ?_
   refine wO g46 ?_
   refine wV (v_lss rfl rfl) ?_
   refine wO rfl ?_
   refine wV (v_pick_f rfl g46 rfl) ?_
   refine wO rfl ?_
   refine wM ?_
   refine wl_guard rfl rfl rfl (fun g50 => ?_) (fun g50 => ?_)
   rotate_left
   ·have g50p := oT g50
    refine wF g50 ?_
    refine wO rfl ?_
    refine wV (v_pick_t rfl g50 rfl) ?_
    refine wV (v_pick_t rfl rfl rfl) ?_
    refine wl_nil ?_
    refine wc_cond_t rfl ?_
    refine wcR ?_
    refine wA ?_
    refine wl_nil ?_
    refine wc_ret ?_
    first
      | exact ⟨_, res1 rfl rfl, congrArg Value.bool (dec_eq ⟨fun hd => ⟨by omega, by have := of_decide_eq_true hd; omega, fun j hj => ha j (by omega)⟩, fun hh => decide_eq_true (by obtain ⟨h5, h6, _⟩ := hh; omega)⟩), H.pm (by repeat constructor)⟩
      | exact ⟨_, res1 rfl rfl, congrArg Value.bool (dec_f fun hh => by have h5 := hh.2.2 i (by omega); unfold chOk at h5; omega).symm, H.pm (by repeat constructor)⟩
      | exact ⟨_, res1 rfl rfl, congrArg Value.bool (dec_t ⟨by omega, by omega, fun j hj => ha j (by omega)⟩).symm, H.pm (by repeat constructor)⟩
      | exact ⟨_, res1 rfl rfl, congrArg Value.bool (dec_f fun hh => by obtain ⟨h5, h6, _⟩ := hh; omega).symm, H.pm (by repeat constructor)⟩
   have g50p := oF g50
   refine wM ?_
   refine wO g50 ?_
   refine wV (v_gtr rfl rfl) ?_
   refine wO rfl ?_
   refine wV (v_pick_f rfl g50 rfl) ?_
   refine wV (v_pick_t rfl rfl rfl) ?_
   refine wl_nil ?_
   refine wc_cond rfl (fun c2 => ?_) (fun c2 => ?_)
   rotate_left
   ·have c2p := oF c2
    refine wc_skip ?_
    refine wc_region ?_
    refine wM ?_
    refine wV (v_addi rfl rfl (by omega)) ?_
    refine wA ?_
    refine wl_nil ?_
    exact ⟨i + 1, (sc rfl (sc rfl (sn _))), ⟨by omega, upto_succ ha (by unfold chOk; omega), H.pm (by repeat constructor)⟩, by omega⟩
   have c2p := oT c2
   refine wcR ?_
   refine wA ?_
   refine wl_nil ?_
   refine wc_ret ?_
   first
     | exact ⟨_, res1 rfl rfl, congrArg Value.bool (dec_eq ⟨fun hd => ⟨by omega, by have := of_decide_eq_true hd; omega, fun j hj => ha j (by omega)⟩, fun hh => decide_eq_true (by obtain ⟨h5, h6, _⟩ := hh; omega)⟩), H.pm (by repeat constructor)⟩
     | exact ⟨_, res1 rfl rfl, congrArg Value.bool (dec_f fun hh => by have h5 := hh.2.2 i (by omega); unfold chOk at h5; omega).symm, H.pm (by repeat constructor)⟩
     | exact ⟨_, res1 rfl rfl, congrArg Value.bool (dec_t ⟨by omega, by omega, fun j hj => ha j (by omega)⟩).symm, H.pm (by repeat constructor)⟩
     | exact ⟨_, res1 rfl rfl, congrArg Value.bool (dec_f fun hh => by obtain ⟨h5, h6, _⟩ := hh; omega).symm, H.pm (by repeat constructor)⟩
  have g36p := oT g36
  refine wM ?_
  refine wO g36 ?_
  refine wV (v_leq rfl rfl) ?_
  refine wO g33 ?_
  refine wV (v_pick_t rfl g36 rfl) ?_
  refine wV (v_pick_f rfl g33 rfl) ?_
  refine wA ?_
  refine wl_nil ?_
  refine wcR ?_
  refine wM ?_
  refine wV (v_not rfl) ?_
  refine wM ?_
  refine wl_guard rfl rfl rfl (fun g43 => ?_) (fun g43 => ?_)
  rotate_left
  ·have g43p := of_nd_f g43
   refine wF g43 ?_
   refine wF g43 ?_
   refine wl_offu rfl rfl rfl ?_
   refine wl_offu rfl rfl rfl ?_
   refine wF g43 ?_
   refine wF g43 ?_
   refine wl_offu rfl rfl rfl ?_
   refine wl_offu rfl rfl rfl ?_
   refine wF g43 ?_
   refine wV (v_pick_f rfl g43 rfl) ?_
   refine wl_nil ?_
   refine wc_cond_f rfl ?_
   refine wc_skip ?_
   refine wc_region ?_
   refine wM ?_
   refine wV (v_addi rfl rfl (by omega)) ?_
   refine wA ?_
   refine wl_nil ?_
   exact ⟨i + 1, (sc rfl (sc rfl (sn _))), ⟨by omega, upto_succ ha (by unfold chOk; omega), H.pm (by repeat constructor)⟩, by omega⟩
  have g43p := of_nd_t g43
  refine wM ?_
  refine wO g43 ?_
  refine wV (v_eql rfl rfl) ?_
  refine wO g43 ?_
  refine wM ?_
  refine wl_guard rfl rfl rfl (fun g46 => ?_) (fun g46 => ?_)
  rotate_left
  ·have g46p := oT g46
   refine wF g46 ?_
   refine wO g43 ?_
   refine wV (v_pick_t rfl g46 rfl) ?_
   refine wO g43 ?_
   refine wM ?_
   refine wF rfl ?_
   refine wF rfl ?_
   refine wO g43 ?_
   refine wV (v_pick_t rfl rfl rfl) ?_
   refine wV (v_pick_t rfl g43 rfl) ?_
   refine wl_nil ?_
   refine wc_cond_t rfl ?_
   refine wcR ?_
   refine wA ?_
   refine wl_nil ?_
   refine wc_ret ?_
   first
     | exact ⟨_, res1 rfl rfl, congrArg Value.bool (dec_eq ⟨fun hd => ⟨by omega, by have := of_decide_eq_true hd; omega, fun j hj => ha j (by omega)⟩, fun hh => decide_eq_true (by obtain ⟨h5, h6, _⟩ := hh; omega)⟩), H.pm (by repeat constructor)⟩
     | exact ⟨_, res1 rfl rfl, congrArg Value.bool (dec_f fun hh => by have h5 := hh.2.2 i (by omega); unfold chOk at h5; omega).symm, H.pm (by repeat constructor)⟩
     | exact ⟨_, res1 rfl rfl, congrArg Value.bool (dec_t ⟨by omega, by omega, fun j hj => ha j (by omega)⟩).symm, H.pm (by repeat constructor)⟩
     | exact ⟨_, res1 rfl rfl, congrArg Value.bool (dec_f fun hh => by obtain ⟨h5, h6, _⟩ := hh; omega).symm, H.pm (by repeat constructor)⟩
  have g46p := oF g46
  refine wM ?_
  refine wO g46 ?_
  refine wV (v_lss rfl rfl) ?_
  refine wO g43 ?_
  refine wV (v_pick_f rfl g46 rfl) ?_
  refine wO g43 ?_
  refine wM ?_
  refine wl_guard rfl rfl rfl (fun g50 => ?_) (fun g50 => ?_)
  rotate_left
  ·have g50p := oT g50
   refine wF g50 ?_
   refine wO g43 ?_
   refine wV (v_pick_t rfl g50 rfl) ?_
   refine wV (v_pick_t rfl g43 rfl) ?_
   refine wl_nil ?_
   refine wc_cond_t rfl ?_
   refine wcR ?_
   refine wA ?_
   refine wl_nil ?_
   refine wc_ret ?_
   first
     | exact ⟨_, res1 rfl rfl, congrArg Value.bool (dec_eq ⟨fun hd => ⟨by omega, by have := of_decide_eq_true hd; omega, fun j hj => ha j (by omega)⟩, fun hh => decide_eq_true (by obtain ⟨h5, h6, _⟩ := hh; omega)⟩), H.pm (by repeat constructor)⟩
     | exact ⟨_, res1 rfl rfl, congrArg Value.bool (dec_f fun hh => by have h5 := hh.2.2 i (by omega); unfold chOk at h5; omega).symm, H.pm (by repeat constructor)⟩
     | exact ⟨_, res1 rfl rfl, congrArg Value.bool (dec_t ⟨by omega, by omega, fun j hj => ha j (by omega)⟩).symm, H.pm (by repeat constructor)⟩
     | exact ⟨_, res1 rfl rfl, congrArg Value.bool (dec_f fun hh => by obtain ⟨h5, h6, _⟩ := hh; omega).symm, H.pm (by repeat constructor)⟩
  have g50p := oF g50
  refine wM ?_
  refine wO g50 ?_
  refine wV (v_gtr rfl rfl) ?_
  refine wO g43 ?_
  refine wV (v_pick_f rfl g50 rfl) ?_
  refine wV (v_pick_t rfl g43 rfl) ?_
  refine wl_nil ?_
  refine wc_cond rfl (fun c2 => ?_) (fun c2 => ?_)
  rotate_left
  ·have c2p := oF c2
   refine wc_skip ?_
   refine wc_region ?_
   refine wM ?_
   refine wV (v_addi rfl rfl (by omega)) ?_
   refine wA ?_
   refine wl_nil ?_
   exact ⟨i + 1, (sc rfl (sc rfl (sn _))), ⟨by omega, upto_succ ha (by unfold chOk; omega), H.pm (by repeat constructor)⟩, by omega⟩
  have c2p := oT c2
  refine wcR ?_
  refine wA ?_
  refine wl_nil ?_
  refine wc_ret ?_
  first
    | exact ⟨_, res1 rfl rfl, congrArg Value.bool (dec_eq ⟨fun hd => ⟨by omega, by have := of_decide_eq_true hd; omega, fun j hj => ha j (by omega)⟩, fun hh => decide_eq_true (by obtain ⟨h5, h6, _⟩ := hh; omega)⟩), H.pm (by repeat constructor)⟩
    | exact ⟨_, res1 rfl rfl, congrArg Value.bool (dec_f fun hh => by have h5 := hh.2.2 i (by omega); unfold chOk at h5; omega).symm, H.pm (by repeat constructor)⟩
    | exact ⟨_, res1 rfl rfl, congrArg Value.bool (dec_t ⟨by omega, by omega, fun j hj => ha j (by omega)⟩).symm, H.pm (by repeat constructor)⟩
    | exact ⟨_, res1 rfl rfl, congrArg Value.bool (dec_f fun hh => by obtain ⟨h5, h6, _⟩ := hh; omega).symm, H.pm (by repeat constructor)⟩

set_option maxHeartbeats 1600000 in
set_option maxRecDepth 100000 in
theorem word_calls {s : ByteArray} {w : World} (hs : s.size ≤ 1099511627776) : Calls Try.prog 55 #[.string s] w fun e w' => ∃ v, e = .returned v ∧ v = .bool (dec (NameOk 32 s)) ∧ Holds w [] w' := by
  refine calls_of Try.func55 rfl Try.ntmps55 rfl ?_
  have H := Holds.start w
  refine wcR ?_
  refine wA ?_
  refine wl_nil ?_
  refine wc_seq ?_
  refine wcR ?_
  refine wA ?_
  refine wl_nil ?_
  refine wc_block ?_
  refine wc_loop (σ := Nat) (fun q => [(0, .string s), (3, .int .i64 q)]) (fun q W => q ≤ s.size ∧ (∀ j, j < q → chOk j (byt s j)) ∧ Holds w [] W) (fun q => s.size - q) 0 (sc rfl (sc rfl (sn _))) ⟨Nat.zero_le _, upto_zero, H⟩ ?_
  rintro i W0 ⟨hi, ha, H⟩
  refine wc_seq ?_
  refine wcR ?_
  refine wM ?_
  refine wM ?_
  refine wV (v_lens Try.underlying9 rfl) ?_
  refine wV (v_lss rfl rfl) ?_
  refine wl_nil ?_
  refine wc_cond rfl (fun c0 => ?_) (fun c0 => ?_)
  rotate_left
  ·have c0p := oF c0
   refine wc_exit ?_
   refine wcR ?_
   refine wM ?_
   refine wV (v_lens Try.underlying9 rfl) ?_
   refine wV (v_geq rfl rfl) ?_
   refine wM ?_
   refine wl_guard rfl rfl rfl (fun g47 => ?_) (fun g47 => ?_)
   rotate_left
   ·have g47p := oF g47
    refine wF g47 ?_
    refine wF g47 ?_
    refine wV (v_pick_f rfl g47 rfl) ?_
    refine wA ?_
    refine wl_nil ?_
    refine wc_ret ?_
    first
      | exact ⟨_, res1 rfl rfl, congrArg Value.bool (dec_eq ⟨fun hd => ⟨by omega, by have := of_decide_eq_true hd; omega, fun j hj => ha j (by omega)⟩, fun hh => decide_eq_true (by obtain ⟨h5, h6, _⟩ := hh; omega)⟩), H.pm (by repeat constructor)⟩
      | exact ⟨_, res1 rfl rfl, congrArg Value.bool (dec_f fun hh => by have h5 := hh.2.2 i (by omega); unfold chOk at h5; omega).symm, H.pm (by repeat constructor)⟩
      | exact ⟨_, res1 rfl rfl, congrArg Value.bool (dec_t ⟨by omega, by omega, fun j hj => ha j (by omega)⟩).symm, H.pm (by repeat constructor)⟩
      | exact ⟨_, res1 rfl rfl, congrArg Value.bool (dec_f fun hh => by obtain ⟨h5, h6, _⟩ := hh; omega).symm, H.pm (by repeat constructor)⟩
   have g47p := oT g47
   refine wM ?_
   refine wO g47 ?_
   refine wV (v_lens Try.underlying9 rfl) ?_
   refine wO g47 ?_
   refine wV (v_leq rfl rfl) ?_
   refine wV (v_pick_t rfl g47 rfl) ?_
   refine wA ?_
   refine wl_nil ?_
   refine wc_ret ?_
   first
     | exact ⟨_, res1 rfl rfl, congrArg Value.bool (dec_eq ⟨fun hd => ⟨by omega, by have := of_decide_eq_true hd; omega, fun j hj => ha j (by omega)⟩, fun hh => decide_eq_true (by obtain ⟨h5, h6, _⟩ := hh; omega)⟩), H.pm (by repeat constructor)⟩
     | exact ⟨_, res1 rfl rfl, congrArg Value.bool (dec_f fun hh => by have h5 := hh.2.2 i (by omega); unfold chOk at h5; omega).symm, H.pm (by repeat constructor)⟩
     | exact ⟨_, res1 rfl rfl, congrArg Value.bool (dec_t ⟨by omega, by omega, fun j hj => ha j (by omega)⟩).symm, H.pm (by repeat constructor)⟩
     | exact ⟨_, res1 rfl rfl, congrArg Value.bool (dec_f fun hh => by obtain ⟨h5, h6, _⟩ := hh; omega).symm, H.pm (by repeat constructor)⟩
  have c0p := oT c0
  refine wc_skip ?_
  refine wc_seq ?_
  refine wc_block ?_
  refine wcR ?_
  refine wM ?_
  refine wM ?_
  refine wV (v_idxs (i := i) (s := s) Try.underlying9 rfl rfl (by omega)) ?_
  refine wA ?_
  refine wl_nil ?_
  refine wc_seq ?_
  refine wcR ?_
  refine wM ?_
  refine wV (v_geq rfl rfl) ?_
  refine wM ?_
  refine wl_guard rfl rfl rfl (fun g16 => ?_) (fun g16 => ?_)
  rotate_left
  ·have g16p := oF g16
   refine wF g16 ?_
   refine wV (v_pick_f rfl g16 rfl) ?_
   refine wM ?_
   refine wO rfl ?_
   refine wM ?_
   refine wO rfl ?_
   refine wV (v_geq rfl rfl) ?_
   refine wO rfl ?_
   refine wM ?_
   refine wl_guard rfl rfl rfl (fun g23 => ?_) (fun g23 => ?_)
   rotate_left
   ·have g23p := oF g23
    refine wF g23 ?_
    refine wO rfl ?_
    refine wV (v_pick_f rfl g23 rfl) ?_
    refine wV (v_pick_f rfl rfl rfl) ?_
    refine wM ?_
    refine wO rfl ?_
    refine wM ?_
    refine wO rfl ?_
    refine wV (v_eql rfl rfl) ?_
    refine wV (v_pick_f rfl rfl rfl) ?_
    refine wM ?_
    refine wl_guard rfl rfl rfl (fun g32 => ?_) (fun g32 => ?_)
    rotate_left
    ·have g32p := oT g32
     refine wF g32 ?_
     refine wF g32 ?_
     refine wl_offu rfl rfl rfl ?_
     refine wl_offu rfl rfl rfl ?_
     refine wF g32 ?_
     refine wF g32 ?_
     refine wl_offu rfl rfl rfl ?_
     refine wl_offu rfl rfl rfl ?_
     refine wF g32 ?_
     refine wV (v_pick_t rfl g32 rfl) ?_
     refine wl_nil ?_
     refine wc_cond_t rfl ?_
     refine wc_exit ?_
     refine wc_region ?_
     refine wM ?_
     refine wV (v_addi rfl rfl (by omega)) ?_
     refine wA ?_
     refine wl_nil ?_
     exact ⟨i + 1, (sc rfl (sc rfl (sn _))), ⟨by omega, upto_succ ha (by unfold chOk; omega), H.pm (by repeat constructor)⟩, by omega⟩
    have g32p := oF g32
    refine wM ?_
    refine wO g32 ?_
    refine wV (v_gtr rfl rfl) ?_
    refine wO g32 ?_
    refine wM ?_
    refine wl_guard rfl rfl rfl (fun g35 => ?_) (fun g35 => ?_)
    rotate_left
    ·have g35p := oF g35
     refine wF g35 ?_
     refine wO g32 ?_
     refine wV (v_pick_f rfl g35 rfl) ?_
     refine wO g32 ?_
     refine wM ?_
     refine wF rfl ?_
     refine wF rfl ?_
     refine wO g32 ?_
     refine wV (v_pick_f rfl rfl rfl) ?_
     refine wV (v_pick_f rfl g32 rfl) ?_
     refine wl_nil ?_
     refine wc_cond_f rfl ?_
     refine wc_skip ?_
     refine wcR ?_
     refine wA ?_
     refine wl_nil ?_
     refine wc_ret ?_
     first
       | exact ⟨_, res1 rfl rfl, congrArg Value.bool (dec_eq ⟨fun hd => ⟨by omega, by have := of_decide_eq_true hd; omega, fun j hj => ha j (by omega)⟩, fun hh => decide_eq_true (by obtain ⟨h5, h6, _⟩ := hh; omega)⟩), H.pm (by repeat constructor)⟩
       | exact ⟨_, res1 rfl rfl, congrArg Value.bool (dec_f fun hh => by have h5 := hh.2.2 i (by omega); unfold chOk at h5; omega).symm, H.pm (by repeat constructor)⟩
       | exact ⟨_, res1 rfl rfl, congrArg Value.bool (dec_t ⟨by omega, by omega, fun j hj => ha j (by omega)⟩).symm, H.pm (by repeat constructor)⟩
       | exact ⟨_, res1 rfl rfl, congrArg Value.bool (dec_f fun hh => by obtain ⟨h5, h6, _⟩ := hh; omega).symm, H.pm (by repeat constructor)⟩
    have g35p := oT g35
    refine wM ?_
    refine wO g35 ?_
    refine wV (v_geq rfl rfl) ?_
    refine wO g32 ?_
    refine wV (v_pick_t rfl g35 rfl) ?_
    refine wO g32 ?_
    refine wM ?_
    refine wl_guard rfl rfl rfl (fun g39 => ?_) (fun g39 => ?_)
    rotate_left
    ·have g39p := oF g39
     refine wF g39 ?_
     refine wO g32 ?_
     refine wV (v_pick_f rfl g39 rfl) ?_
     refine wV (v_pick_f rfl g32 rfl) ?_
     refine wl_nil ?_
     refine wc_cond_f rfl ?_
     refine wc_skip ?_
     refine wcR ?_
     refine wA ?_
     refine wl_nil ?_
     refine wc_ret ?_
     first
       | exact ⟨_, res1 rfl rfl, congrArg Value.bool (dec_eq ⟨fun hd => ⟨by omega, by have := of_decide_eq_true hd; omega, fun j hj => ha j (by omega)⟩, fun hh => decide_eq_true (by obtain ⟨h5, h6, _⟩ := hh; omega)⟩), H.pm (by repeat constructor)⟩
       | exact ⟨_, res1 rfl rfl, congrArg Value.bool (dec_f fun hh => by have h5 := hh.2.2 i (by omega); unfold chOk at h5; omega).symm, H.pm (by repeat constructor)⟩
       | exact ⟨_, res1 rfl rfl, congrArg Value.bool (dec_t ⟨by omega, by omega, fun j hj => ha j (by omega)⟩).symm, H.pm (by repeat constructor)⟩
       | exact ⟨_, res1 rfl rfl, congrArg Value.bool (dec_f fun hh => by obtain ⟨h5, h6, _⟩ := hh; omega).symm, H.pm (by repeat constructor)⟩
    have g39p := oT g39
    refine wM ?_
    refine wO g39 ?_
    refine wV (v_leq rfl rfl) ?_
    refine wO g32 ?_
    refine wV (v_pick_t rfl g39 rfl) ?_
    refine wV (v_pick_f rfl g32 rfl) ?_
    refine wl_nil ?_
    refine wc_cond rfl (fun c1 => ?_) (fun c1 => ?_)
    ·have c1p := oT c1
     refine wc_exit ?_
     refine wc_region ?_
     refine wM ?_
     refine wV (v_addi rfl rfl (by omega)) ?_
     refine wA ?_
     refine wl_nil ?_
     exact ⟨i + 1, (sc rfl (sc rfl (sn _))), ⟨by omega, upto_succ ha (by unfold chOk; omega), H.pm (by repeat constructor)⟩, by omega⟩
    have c1p := oF c1
    refine wc_skip ?_
    refine wcR ?_
    refine wA ?_
    refine wl_nil ?_
    refine wc_ret ?_
    first
      | exact ⟨_, res1 rfl rfl, congrArg Value.bool (dec_eq ⟨fun hd => ⟨by omega, by have := of_decide_eq_true hd; omega, fun j hj => ha j (by omega)⟩, fun hh => decide_eq_true (by obtain ⟨h5, h6, _⟩ := hh; omega)⟩), H.pm (by repeat constructor)⟩
      | exact ⟨_, res1 rfl rfl, congrArg Value.bool (dec_f fun hh => by have h5 := hh.2.2 i (by omega); unfold chOk at h5; omega).symm, H.pm (by repeat constructor)⟩
      | exact ⟨_, res1 rfl rfl, congrArg Value.bool (dec_t ⟨by omega, by omega, fun j hj => ha j (by omega)⟩).symm, H.pm (by repeat constructor)⟩
      | exact ⟨_, res1 rfl rfl, congrArg Value.bool (dec_f fun hh => by obtain ⟨h5, h6, _⟩ := hh; omega).symm, H.pm (by repeat constructor)⟩
   have g23p := oT g23
   refine wM ?_
   refine wO g23 ?_
   refine wV (v_leq rfl rfl) ?_
   refine wO rfl ?_
   refine wV (v_pick_t rfl g23 rfl) ?_
   refine wV (v_pick_f rfl rfl rfl) ?_
   refine wM ?_
   refine wl_guard rfl rfl rfl (fun g28 => ?_) (fun g28 => ?_)
   rotate_left
   ·have g28p := oT g28
    refine wF g28 ?_
    refine wV (v_pick_t rfl g28 rfl) ?_
    refine wM ?_
    refine wF rfl ?_
    refine wF rfl ?_
    refine wF rfl ?_
    refine wl_offu rfl rfl rfl ?_
    refine wl_offu rfl rfl rfl ?_
    refine wF rfl ?_
    refine wF rfl ?_
    refine wl_offu rfl rfl rfl ?_
    refine wl_offu rfl rfl rfl ?_
    refine wF rfl ?_
    refine wV (v_pick_t rfl rfl rfl) ?_
    refine wl_nil ?_
    refine wc_cond_t rfl ?_
    refine wc_exit ?_
    refine wc_region ?_
    refine wM ?_
    refine wV (v_addi rfl rfl (by omega)) ?_
    refine wA ?_
    refine wl_nil ?_
    exact ⟨i + 1, (sc rfl (sc rfl (sn _))), ⟨by omega, upto_succ ha (by unfold chOk; omega), H.pm (by repeat constructor)⟩, by omega⟩
   have g28p := oF g28
   refine wM ?_
   refine wO g28 ?_
   refine wV (v_eql rfl rfl) ?_
   refine wV (v_pick_f rfl g28 rfl) ?_
   refine wM ?_
   refine wl_guard rfl rfl rfl (fun g32 => ?_) (fun g32 => ?_)
   rotate_left
   ·have g32p := oT g32
    refine wF g32 ?_
    refine wF g32 ?_
    refine wl_offu rfl rfl rfl ?_
    refine wl_offu rfl rfl rfl ?_
    refine wF g32 ?_
    refine wF g32 ?_
    refine wl_offu rfl rfl rfl ?_
    refine wl_offu rfl rfl rfl ?_
    refine wF g32 ?_
    refine wV (v_pick_t rfl g32 rfl) ?_
    refine wl_nil ?_
    refine wc_cond_t rfl ?_
    refine wc_exit ?_
    refine wc_region ?_
    refine wM ?_
    refine wV (v_addi rfl rfl (by omega)) ?_
    refine wA ?_
    refine wl_nil ?_
    exact ⟨i + 1, (sc rfl (sc rfl (sn _))), ⟨by omega, upto_succ ha (by unfold chOk; omega), H.pm (by repeat constructor)⟩, by omega⟩
   have g32p := oF g32
   refine wM ?_
   refine wO g32 ?_
   refine wV (v_gtr rfl rfl) ?_
   refine wO g32 ?_
   refine wM ?_
   refine wl_guard rfl rfl rfl (fun g35 => ?_) (fun g35 => ?_)
   rotate_left
   ·have g35p := oF g35
    refine wF g35 ?_
    refine wO g32 ?_
    refine wV (v_pick_f rfl g35 rfl) ?_
    refine wO g32 ?_
    refine wM ?_
    refine wF rfl ?_
    refine wF rfl ?_
    refine wO g32 ?_
    refine wV (v_pick_f rfl rfl rfl) ?_
    refine wV (v_pick_f rfl g32 rfl) ?_
    refine wl_nil ?_
    refine wc_cond_f rfl ?_
    refine wc_skip ?_
    refine wcR ?_
    refine wA ?_
    refine wl_nil ?_
    refine wc_ret ?_
    first
      | exact ⟨_, res1 rfl rfl, congrArg Value.bool (dec_eq ⟨fun hd => ⟨by omega, by have := of_decide_eq_true hd; omega, fun j hj => ha j (by omega)⟩, fun hh => decide_eq_true (by obtain ⟨h5, h6, _⟩ := hh; omega)⟩), H.pm (by repeat constructor)⟩
      | exact ⟨_, res1 rfl rfl, congrArg Value.bool (dec_f fun hh => by have h5 := hh.2.2 i (by omega); unfold chOk at h5; omega).symm, H.pm (by repeat constructor)⟩
      | exact ⟨_, res1 rfl rfl, congrArg Value.bool (dec_t ⟨by omega, by omega, fun j hj => ha j (by omega)⟩).symm, H.pm (by repeat constructor)⟩
      | exact ⟨_, res1 rfl rfl, congrArg Value.bool (dec_f fun hh => by obtain ⟨h5, h6, _⟩ := hh; omega).symm, H.pm (by repeat constructor)⟩
   have g35p := oT g35
   refine wM ?_
   refine wO g35 ?_
   refine wV (v_geq rfl rfl) ?_
   refine wO g32 ?_
   refine wV (v_pick_t rfl g35 rfl) ?_
   refine wO g32 ?_
   refine wM ?_
   refine wl_guard rfl rfl rfl (fun g39 => ?_) (fun g39 => ?_)
   rotate_left
   ·have g39p := oF g39
    refine wF g39 ?_
    refine wO g32 ?_
    refine wV (v_pick_f rfl g39 rfl) ?_
    refine wV (v_pick_f rfl g32 rfl) ?_
    refine wl_nil ?_
    refine wc_cond_f rfl ?_
    refine wc_skip ?_
    refine wcR ?_
    refine wA ?_
    refine wl_nil ?_
    refine wc_ret ?_
    first
      | exact ⟨_, res1 rfl rfl, congrArg Value.bool (dec_eq ⟨fun hd => ⟨by omega, by have := of_decide_eq_true hd; omega, fun j hj => ha j (by omega)⟩, fun hh => decide_eq_true (by obtain ⟨h5, h6, _⟩ := hh; omega)⟩), H.pm (by repeat constructor)⟩
      | exact ⟨_, res1 rfl rfl, congrArg Value.bool (dec_f fun hh => by have h5 := hh.2.2 i (by omega); unfold chOk at h5; omega).symm, H.pm (by repeat constructor)⟩
      | exact ⟨_, res1 rfl rfl, congrArg Value.bool (dec_t ⟨by omega, by omega, fun j hj => ha j (by omega)⟩).symm, H.pm (by repeat constructor)⟩
      | exact ⟨_, res1 rfl rfl, congrArg Value.bool (dec_f fun hh => by obtain ⟨h5, h6, _⟩ := hh; omega).symm, H.pm (by repeat constructor)⟩
   have g39p := oT g39
   refine wM ?_
   refine wO g39 ?_
   refine wV (v_leq rfl rfl) ?_
   refine wO g32 ?_
   refine wV (v_pick_t rfl g39 rfl) ?_
   refine wV (v_pick_f rfl g32 rfl) ?_
   refine wl_nil ?_
   refine wc_cond rfl (fun c1 => ?_) (fun c1 => ?_)
   ·have c1p := oT c1
    refine wc_exit ?_
    refine wc_region ?_
    refine wM ?_
    refine wV (v_addi rfl rfl (by omega)) ?_
    refine wA ?_
    refine wl_nil ?_
    exact ⟨i + 1, (sc rfl (sc rfl (sn _))), ⟨by omega, upto_succ ha (by unfold chOk; omega), H.pm (by repeat constructor)⟩, by omega⟩
   have c1p := oF c1
   refine wc_skip ?_
   refine wcR ?_
   refine wA ?_
   refine wl_nil ?_
   refine wc_ret ?_
   first
     | exact ⟨_, res1 rfl rfl, congrArg Value.bool (dec_eq ⟨fun hd => ⟨by omega, by have := of_decide_eq_true hd; omega, fun j hj => ha j (by omega)⟩, fun hh => decide_eq_true (by obtain ⟨h5, h6, _⟩ := hh; omega)⟩), H.pm (by repeat constructor)⟩
     | exact ⟨_, res1 rfl rfl, congrArg Value.bool (dec_f fun hh => by have h5 := hh.2.2 i (by omega); unfold chOk at h5; omega).symm, H.pm (by repeat constructor)⟩
     | exact ⟨_, res1 rfl rfl, congrArg Value.bool (dec_t ⟨by omega, by omega, fun j hj => ha j (by omega)⟩).symm, H.pm (by repeat constructor)⟩
     | exact ⟨_, res1 rfl rfl, congrArg Value.bool (dec_f fun hh => by obtain ⟨h5, h6, _⟩ := hh; omega).symm, H.pm (by repeat constructor)⟩
  have g16p := oT g16
  refine wM ?_
  refine wO g16 ?_
  refine wV (v_leq rfl rfl) ?_
  refine wV (v_pick_t rfl g16 rfl) ?_
  refine wM ?_
  refine wl_guard rfl rfl rfl (fun g20 => ?_) (fun g20 => ?_)
  rotate_left
  ·have g20p := oT g20
   refine wF g20 ?_
   refine wF g20 ?_
   refine wl_offu rfl rfl rfl ?_
   refine wl_offu rfl rfl rfl ?_
   refine wF g20 ?_
   refine wV (v_pick_t rfl g20 rfl) ?_
   refine wM ?_
   refine wF rfl ?_
   refine wF rfl ?_
   refine wV (v_pick_t rfl rfl rfl) ?_
   refine wM ?_
   refine wF rfl ?_
   refine wF rfl ?_
   refine wF rfl ?_
   refine wl_offu rfl rfl rfl ?_
   refine wl_offu rfl rfl rfl ?_
   refine wF rfl ?_
   refine wF rfl ?_
   refine wl_offu rfl rfl rfl ?_
   refine wl_offu rfl rfl rfl ?_
   refine wF rfl ?_
   refine wV (v_pick_t rfl rfl rfl) ?_
   refine wl_nil ?_
   refine wc_cond_t rfl ?_
   refine wc_exit ?_
   refine wc_region ?_
   refine wM ?_
   refine wV (v_addi rfl rfl (by omega)) ?_
   refine wA ?_
   refine wl_nil ?_
   exact ⟨i + 1, (sc rfl (sc rfl (sn _))), ⟨by omega, upto_succ ha (by unfold chOk; omega), H.pm (by repeat constructor)⟩, by omega⟩
  have g20p := oF g20
  refine wM ?_
  refine wO g20 ?_
  refine wV (v_geq rfl rfl) ?_
  refine wO g20 ?_
  refine wM ?_
  refine wl_guard rfl rfl rfl (fun g23 => ?_) (fun g23 => ?_)
  rotate_left
  ·have g23p := oF g23
   refine wF g23 ?_
   refine wO g20 ?_
   refine wV (v_pick_f rfl g23 rfl) ?_
   refine wV (v_pick_f rfl g20 rfl) ?_
   refine wM ?_
   refine wO rfl ?_
   refine wM ?_
   refine wO rfl ?_
   refine wV (v_eql rfl rfl) ?_
   refine wV (v_pick_f rfl rfl rfl) ?_
   refine wM ?_
   refine wl_guard rfl rfl rfl (fun g32 => ?_) (fun g32 => ?_)
   rotate_left
   ·have g32p := oT g32
    refine wF g32 ?_
    refine wF g32 ?_
    refine wl_offu rfl rfl rfl ?_
    refine wl_offu rfl rfl rfl ?_
    refine wF g32 ?_
    refine wF g32 ?_
    refine wl_offu rfl rfl rfl ?_
    refine wl_offu rfl rfl rfl ?_
    refine wF g32 ?_
    refine wV (v_pick_t rfl g32 rfl) ?_
    refine wl_nil ?_
    refine wc_cond_t rfl ?_
    refine wc_exit ?_
    refine wc_region ?_
    refine wM ?_
    refine wV (v_addi rfl rfl (by omega)) ?_
    refine wA ?_
    refine wl_nil ?_
    exact ⟨i + 1, (sc rfl (sc rfl (sn _))), ⟨by omega, upto_succ ha (by unfold chOk; omega), H.pm (by repeat constructor)⟩, by omega⟩
   have g32p := oF g32
   refine wM ?_
   refine wO g32 ?_
   refine wV (v_gtr rfl rfl) ?_
   refine wO g32 ?_
   refine wM ?_
   refine wl_guard rfl rfl rfl (fun g35 => ?_) (fun g35 => ?_)
   rotate_left
   ·have g35p := oF g35
    refine wF g35 ?_
    refine wO g32 ?_
    refine wV (v_pick_f rfl g35 rfl) ?_
    refine wO g32 ?_
    refine wM ?_
    refine wF rfl ?_
    refine wF rfl ?_
    refine wO g32 ?_
    refine wV (v_pick_f rfl rfl rfl) ?_
    refine wV (v_pick_f rfl g32 rfl) ?_
    refine wl_nil ?_
    refine wc_cond_f rfl ?_
    refine wc_skip ?_
    refine wcR ?_
    refine wA ?_
    refine wl_nil ?_
    refine wc_ret ?_
    first
      | exact ⟨_, res1 rfl rfl, congrArg Value.bool (dec_eq ⟨fun hd => ⟨by omega, by have := of_decide_eq_true hd; omega, fun j hj => ha j (by omega)⟩, fun hh => decide_eq_true (by obtain ⟨h5, h6, _⟩ := hh; omega)⟩), H.pm (by repeat constructor)⟩
      | exact ⟨_, res1 rfl rfl, congrArg Value.bool (dec_f fun hh => by have h5 := hh.2.2 i (by omega); unfold chOk at h5; omega).symm, H.pm (by repeat constructor)⟩
      | exact ⟨_, res1 rfl rfl, congrArg Value.bool (dec_t ⟨by omega, by omega, fun j hj => ha j (by omega)⟩).symm, H.pm (by repeat constructor)⟩
      | exact ⟨_, res1 rfl rfl, congrArg Value.bool (dec_f fun hh => by obtain ⟨h5, h6, _⟩ := hh; omega).symm, H.pm (by repeat constructor)⟩
   have g35p := oT g35
   refine wM ?_
   refine wO g35 ?_
   refine wV (v_geq rfl rfl) ?_
   refine wO g32 ?_
   refine wV (v_pick_t rfl g35 rfl) ?_
   refine wO g32 ?_
   refine wM ?_
   refine wl_guard rfl rfl rfl (fun g39 => ?_) (fun g39 => ?_)
   rotate_left
   ·have g39p := oF g39
    refine wF g39 ?_
    refine wO g32 ?_
    refine wV (v_pick_f rfl g39 rfl) ?_
    refine wV (v_pick_f rfl g32 rfl) ?_
    refine wl_nil ?_
    refine wc_cond_f rfl ?_
    refine wc_skip ?_
    refine wcR ?_
    refine wA ?_
    refine wl_nil ?_
    refine wc_ret ?_
    first
      | exact ⟨_, res1 rfl rfl, congrArg Value.bool (dec_eq ⟨fun hd => ⟨by omega, by have := of_decide_eq_true hd; omega, fun j hj => ha j (by omega)⟩, fun hh => decide_eq_true (by obtain ⟨h5, h6, _⟩ := hh; omega)⟩), H.pm (by repeat constructor)⟩
      | exact ⟨_, res1 rfl rfl, congrArg Value.bool (dec_f fun hh => by have h5 := hh.2.2 i (by omega); unfold chOk at h5; omega).symm, H.pm (by repeat constructor)⟩
      | exact ⟨_, res1 rfl rfl, congrArg Value.bool (dec_t ⟨by omega, by omega, fun j hj => ha j (by omega)⟩).symm, H.pm (by repeat constructor)⟩
      | exact ⟨_, res1 rfl rfl, congrArg Value.bool (dec_f fun hh => by obtain ⟨h5, h6, _⟩ := hh; omega).symm, H.pm (by repeat constructor)⟩
   have g39p := oT g39
   refine wM ?_
   refine wO g39 ?_
   refine wV (v_leq rfl rfl) ?_
   refine wO g32 ?_
   refine wV (v_pick_t rfl g39 rfl) ?_
   refine wV (v_pick_f rfl g32 rfl) ?_
   refine wl_nil ?_
   refine wc_cond rfl (fun c1 => ?_) (fun c1 => ?_)
   ·have c1p := oT c1
    refine wc_exit ?_
    refine wc_region ?_
    refine wM ?_
    refine wV (v_addi rfl rfl (by omega)) ?_
    refine wA ?_
    refine wl_nil ?_
    exact ⟨i + 1, (sc rfl (sc rfl (sn _))), ⟨by omega, upto_succ ha (by unfold chOk; omega), H.pm (by repeat constructor)⟩, by omega⟩
   have c1p := oF c1
   refine wc_skip ?_
   refine wcR ?_
   refine wA ?_
   refine wl_nil ?_
   refine wc_ret ?_
   first
     | exact ⟨_, res1 rfl rfl, congrArg Value.bool (dec_eq ⟨fun hd => ⟨by omega, by have := of_decide_eq_true hd; omega, fun j hj => ha j (by omega)⟩, fun hh => decide_eq_true (by obtain ⟨h5, h6, _⟩ := hh; omega)⟩), H.pm (by repeat constructor)⟩
     | exact ⟨_, res1 rfl rfl, congrArg Value.bool (dec_f fun hh => by have h5 := hh.2.2 i (by omega); unfold chOk at h5; omega).symm, H.pm (by repeat constructor)⟩
     | exact ⟨_, res1 rfl rfl, congrArg Value.bool (dec_t ⟨by omega, by omega, fun j hj => ha j (by omega)⟩).symm, H.pm (by repeat constructor)⟩
     | exact ⟨_, res1 rfl rfl, congrArg Value.bool (dec_f fun hh => by obtain ⟨h5, h6, _⟩ := hh; omega).symm, H.pm (by repeat constructor)⟩
  have g23p := oT g23
  refine wM ?_
  refine wO g23 ?_
  refine wV (v_leq rfl rfl) ?_
  refine wO g20 ?_
  refine wV (v_pick_t rfl g23 rfl) ?_
  refine wV (v_pick_f rfl g20 rfl) ?_
  refine wM ?_
  refine wl_guard rfl rfl rfl (fun g28 => ?_) (fun g28 => ?_)
  rotate_left
  ·have g28p := oT g28
   refine wF g28 ?_
   refine wV (v_pick_t rfl g28 rfl) ?_
   refine wM ?_
   refine wF rfl ?_
   refine wF rfl ?_
   refine wF rfl ?_
   refine wl_offu rfl rfl rfl ?_
   refine wl_offu rfl rfl rfl ?_
   refine wF rfl ?_
   refine wF rfl ?_
   refine wl_offu rfl rfl rfl ?_
   refine wl_offu rfl rfl rfl ?_
   refine wF rfl ?_
   refine wV (v_pick_t rfl rfl rfl) ?_
   refine wl_nil ?_
   refine wc_cond_t rfl ?_
   refine wc_exit ?_
   refine wc_region ?_
   refine wM ?_
   refine wV (v_addi rfl rfl (by omega)) ?_
   refine wA ?_
   refine wl_nil ?_
   exact ⟨i + 1, (sc rfl (sc rfl (sn _))), ⟨by omega, upto_succ ha (by unfold chOk; omega), H.pm (by repeat constructor)⟩, by omega⟩
  have g28p := oF g28
  refine wM ?_
  refine wO g28 ?_
  refine wV (v_eql rfl rfl) ?_
  refine wV (v_pick_f rfl g28 rfl) ?_
  refine wM ?_
  refine wl_guard rfl rfl rfl (fun g32 => ?_) (fun g32 => ?_)
  rotate_left
  ·have g32p := oT g32
   refine wF g32 ?_
   refine wF g32 ?_
   refine wl_offu rfl rfl rfl ?_
   refine wl_offu rfl rfl rfl ?_
   refine wF g32 ?_
   refine wF g32 ?_
   refine wl_offu rfl rfl rfl ?_
   refine wl_offu rfl rfl rfl ?_
   refine wF g32 ?_
   refine wV (v_pick_t rfl g32 rfl) ?_
   refine wl_nil ?_
   refine wc_cond_t rfl ?_
   refine wc_exit ?_
   refine wc_region ?_
   refine wM ?_
   refine wV (v_addi rfl rfl (by omega)) ?_
   refine wA ?_
   refine wl_nil ?_
   exact ⟨i + 1, (sc rfl (sc rfl (sn _))), ⟨by omega, upto_succ ha (by unfold chOk; omega), H.pm (by repeat constructor)⟩, by omega⟩
  have g32p := oF g32
  refine wM ?_
  refine wO g32 ?_
  refine wV (v_gtr rfl rfl) ?_
  refine wO g32 ?_
  refine wM ?_
  refine wl_guard rfl rfl rfl (fun g35 => ?_) (fun g35 => ?_)
  rotate_left
  ·have g35p := oF g35
   refine wF g35 ?_
   refine wO g32 ?_
   refine wV (v_pick_f rfl g35 rfl) ?_
   refine wO g32 ?_
   refine wM ?_
   refine wF rfl ?_
   refine wF rfl ?_
   refine wO g32 ?_
   refine wV (v_pick_f rfl rfl rfl) ?_
   refine wV (v_pick_f rfl g32 rfl) ?_
   refine wl_nil ?_
   refine wc_cond_f rfl ?_
   refine wc_skip ?_
   refine wcR ?_
   refine wA ?_
   refine wl_nil ?_
   refine wc_ret ?_
   first
     | exact ⟨_, res1 rfl rfl, congrArg Value.bool (dec_eq ⟨fun hd => ⟨by omega, by have := of_decide_eq_true hd; omega, fun j hj => ha j (by omega)⟩, fun hh => decide_eq_true (by obtain ⟨h5, h6, _⟩ := hh; omega)⟩), H.pm (by repeat constructor)⟩
     | exact ⟨_, res1 rfl rfl, congrArg Value.bool (dec_f fun hh => by have h5 := hh.2.2 i (by omega); unfold chOk at h5; omega).symm, H.pm (by repeat constructor)⟩
     | exact ⟨_, res1 rfl rfl, congrArg Value.bool (dec_t ⟨by omega, by omega, fun j hj => ha j (by omega)⟩).symm, H.pm (by repeat constructor)⟩
     | exact ⟨_, res1 rfl rfl, congrArg Value.bool (dec_f fun hh => by obtain ⟨h5, h6, _⟩ := hh; omega).symm, H.pm (by repeat constructor)⟩
  have g35p := oT g35
  refine wM ?_
  refine wO g35 ?_
  refine wV (v_geq rfl rfl) ?_
  refine wO g32 ?_
  refine wV (v_pick_t rfl g35 rfl) ?_
  refine wO g32 ?_
  refine wM ?_
  refine wl_guard rfl rfl rfl (fun g39 => ?_) (fun g39 => ?_)
  rotate_left
  ·have g39p := oF g39
   refine wF g39 ?_
   refine wO g32 ?_
   refine wV (v_pick_f rfl g39 rfl) ?_
   refine wV (v_pick_f rfl g32 rfl) ?_
   refine wl_nil ?_
   refine wc_cond_f rfl ?_
   refine wc_skip ?_
   refine wcR ?_
   refine wA ?_
   refine wl_nil ?_
   refine wc_ret ?_
   first
     | exact ⟨_, res1 rfl rfl, congrArg Value.bool (dec_eq ⟨fun hd => ⟨by omega, by have := of_decide_eq_true hd; omega, fun j hj => ha j (by omega)⟩, fun hh => decide_eq_true (by obtain ⟨h5, h6, _⟩ := hh; omega)⟩), H.pm (by repeat constructor)⟩
     | exact ⟨_, res1 rfl rfl, congrArg Value.bool (dec_f fun hh => by have h5 := hh.2.2 i (by omega); unfold chOk at h5; omega).symm, H.pm (by repeat constructor)⟩
     | exact ⟨_, res1 rfl rfl, congrArg Value.bool (dec_t ⟨by omega, by omega, fun j hj => ha j (by omega)⟩).symm, H.pm (by repeat constructor)⟩
     | exact ⟨_, res1 rfl rfl, congrArg Value.bool (dec_f fun hh => by obtain ⟨h5, h6, _⟩ := hh; omega).symm, H.pm (by repeat constructor)⟩
  have g39p := oT g39
  refine wM ?_
  refine wO g39 ?_
  refine wV (v_leq rfl rfl) ?_
  refine wO g32 ?_
  refine wV (v_pick_t rfl g39 rfl) ?_
  refine wV (v_pick_f rfl g32 rfl) ?_
  refine wl_nil ?_
  refine wc_cond rfl (fun c1 => ?_) (fun c1 => ?_)
  ·have c1p := oT c1
   refine wc_exit ?_
   refine wc_region ?_
   refine wM ?_
   refine wV (v_addi rfl rfl (by omega)) ?_
   refine wA ?_
   refine wl_nil ?_
   exact ⟨i + 1, (sc rfl (sc rfl (sn _))), ⟨by omega, upto_succ ha (by unfold chOk; omega), H.pm (by repeat constructor)⟩, by omega⟩
  have c1p := oF c1
  refine wc_skip ?_
  refine wcR ?_
  refine wA ?_
  refine wl_nil ?_
  refine wc_ret ?_
  first
    | exact ⟨_, res1 rfl rfl, congrArg Value.bool (dec_eq ⟨fun hd => ⟨by omega, by have := of_decide_eq_true hd; omega, fun j hj => ha j (by omega)⟩, fun hh => decide_eq_true (by obtain ⟨h5, h6, _⟩ := hh; omega)⟩), H.pm (by repeat constructor)⟩
    | exact ⟨_, res1 rfl rfl, congrArg Value.bool (dec_f fun hh => by have h5 := hh.2.2 i (by omega); unfold chOk at h5; omega).symm, H.pm (by repeat constructor)⟩
    | exact ⟨_, res1 rfl rfl, congrArg Value.bool (dec_t ⟨by omega, by omega, fun j hj => ha j (by omega)⟩).symm, H.pm (by repeat constructor)⟩
    | exact ⟨_, res1 rfl rfl, congrArg Value.bool (dec_f fun hh => by obtain ⟨h5, h6, _⟩ := hh; omega).symm, H.pm (by repeat constructor)⟩

set_option maxHeartbeats 1600000 in
set_option maxRecDepth 100000 in
theorem rword_calls {s : ByteArray} {w : World} (hs : s.size ≤ 1099511627776) : Calls Try.prog 74 #[.string s] w fun e w' => ∃ v, e = .returned v ∧ v = .bool (dec (NameOk 32 s)) ∧ Holds w [] w' := by
  refine calls_of Try.func74 rfl Try.ntmps74 rfl ?_
  have H := Holds.start w
  refine wcR ?_
  refine wA ?_
  refine wl_nil ?_
  refine wc_seq ?_
  refine wcR ?_
  refine wM ?_
  refine wV (v_lens Try.underlying9 rfl) ?_
  refine wV (v_lss rfl rfl) ?_
  refine wM ?_
  refine wl_guard rfl rfl rfl (fun g9 => ?_) (fun g9 => ?_)
  rotate_left
  ·have g9p := oT g9
   refine wF g9 ?_
   refine wF g9 ?_
   refine wV (v_pick_t rfl g9 rfl) ?_
   refine wl_nil ?_
   refine wc_cond_t rfl ?_
   refine wcR ?_
   refine wA ?_
   refine wl_nil ?_
   refine wc_ret ?_
   first
     | exact ⟨_, res1 rfl rfl, congrArg Value.bool (dec_eq ⟨fun hd => ⟨by omega, by have := of_decide_eq_true hd; omega, fun j hj => ha j (by omega)⟩, fun hh => decide_eq_true (by obtain ⟨h5, h6, _⟩ := hh; omega)⟩), H.pm (by repeat constructor)⟩
     | exact ⟨_, res1 rfl rfl, congrArg Value.bool (dec_f fun hh => by have h5 := hh.2.2 i (by omega); unfold chOk at h5; omega).symm, H.pm (by repeat constructor)⟩
     | exact ⟨_, res1 rfl rfl, congrArg Value.bool (dec_t ⟨by omega, by omega, fun j hj => ha j (by omega)⟩).symm, H.pm (by repeat constructor)⟩
     | exact ⟨_, res1 rfl rfl, congrArg Value.bool (dec_f fun hh => by obtain ⟨h5, h6, _⟩ := hh; omega).symm, H.pm (by repeat constructor)⟩
  have g9p := oF g9
  refine wM ?_
  refine wO g9 ?_
  refine wV (v_lens Try.underlying9 rfl) ?_
  refine wO g9 ?_
  refine wV (v_gtr rfl rfl) ?_
  refine wV (v_pick_f rfl g9 rfl) ?_
  refine wl_nil ?_
  refine wc_cond rfl (fun c0 => ?_) (fun c0 => ?_)
  ·have c0p := oT c0
   refine wcR ?_
   refine wA ?_
   refine wl_nil ?_
   refine wc_ret ?_
   first
     | exact ⟨_, res1 rfl rfl, congrArg Value.bool (dec_eq ⟨fun hd => ⟨by omega, by have := of_decide_eq_true hd; omega, fun j hj => ha j (by omega)⟩, fun hh => decide_eq_true (by obtain ⟨h5, h6, _⟩ := hh; omega)⟩), H.pm (by repeat constructor)⟩
     | exact ⟨_, res1 rfl rfl, congrArg Value.bool (dec_f fun hh => by have h5 := hh.2.2 i (by omega); unfold chOk at h5; omega).symm, H.pm (by repeat constructor)⟩
     | exact ⟨_, res1 rfl rfl, congrArg Value.bool (dec_t ⟨by omega, by omega, fun j hj => ha j (by omega)⟩).symm, H.pm (by repeat constructor)⟩
     | exact ⟨_, res1 rfl rfl, congrArg Value.bool (dec_f fun hh => by obtain ⟨h5, h6, _⟩ := hh; omega).symm, H.pm (by repeat constructor)⟩
  have c0p := oF c0
  refine wc_skip ?_
  refine wc_seq ?_
  refine wcR ?_
  refine wA ?_
  refine wl_nil ?_
  refine wc_block ?_
  refine wc_loop (σ := Nat) (fun q => [(0, .string s), (3, .int .i64 q)]) (fun q W => q ≤ s.size ∧ (∀ j, j < q → chOk j (byt s j)) ∧ Holds w [] W) (fun q => s.size - q) 0 (sc rfl (sc rfl (sn _))) ⟨Nat.zero_le _, upto_zero, H⟩ ?_
  rintro i W0 ⟨hi, ha, H⟩
  refine wc_seq ?_
  refine wcR ?_
  refine wM ?_
  refine wM ?_
  refine wV (v_lens Try.underlying9 rfl) ?_
  refine wV (v_lss rfl rfl) ?_
  refine wl_nil ?_
  refine wc_cond rfl (fun c1 => ?_) (fun c1 => ?_)
  rotate_left
  ·have c1p := oF c1
   refine wc_exit ?_
   refine wcR ?_
   refine wA ?_
   refine wl_nil ?_
   refine wc_ret ?_
   first
     | exact ⟨_, res1 rfl rfl, congrArg Value.bool (dec_eq ⟨fun hd => ⟨by omega, by have := of_decide_eq_true hd; omega, fun j hj => ha j (by omega)⟩, fun hh => decide_eq_true (by obtain ⟨h5, h6, _⟩ := hh; omega)⟩), H.pm (by repeat constructor)⟩
     | exact ⟨_, res1 rfl rfl, congrArg Value.bool (dec_f fun hh => by have h5 := hh.2.2 i (by omega); unfold chOk at h5; omega).symm, H.pm (by repeat constructor)⟩
     | exact ⟨_, res1 rfl rfl, congrArg Value.bool (dec_t ⟨by omega, by omega, fun j hj => ha j (by omega)⟩).symm, H.pm (by repeat constructor)⟩
     | exact ⟨_, res1 rfl rfl, congrArg Value.bool (dec_f fun hh => by obtain ⟨h5, h6, _⟩ := hh; omega).symm, H.pm (by repeat constructor)⟩
  have c1p := oT c1
  refine wc_skip ?_
  refine wc_seq ?_
  refine wc_block ?_
  refine wcR ?_
  refine wM ?_
  refine wM ?_
  refine wV (v_idxs (i := i) (s := s) Try.underlying9 rfl rfl (by omega)) ?_
  refine wA ?_
  refine wl_nil ?_
  refine wcR ?_
  refine wM ?_
  refine wV (v_eql rfl rfl) ?_
  refine wM ?_
  refine wl_guard rfl rfl rfl (fun g25 => ?_) (fun g25 => ?_)
  rotate_left
  ·have g25p := oT g25
   refine wF g25 ?_
   refine wF g25 ?_
   refine wl_offu rfl rfl rfl ?_
   refine wl_offu rfl rfl rfl ?_
   refine wF g25 ?_
   refine wV (v_pick_t rfl g25 rfl) ?_
   refine wM ?_
   refine wF rfl ?_
   refine wF rfl ?_
   refine wF rfl ?_
   refine wl_offu rfl rfl rfl ?_
   refine wl_offu rfl rfl rfl ?_
   refine wF rfl ?_
   refine wV (v_pick_t rfl rfl rfl) ?_
   refine wA ?_
   refine wl_nil ?_
   refine wcR ?_
   refine wM ?_
   refine wV (v_not rfl) ?_
   refine wM ?_
   refine wF rfl ?_
   refine wF rfl ?_
   refine wF rfl ?_
   refine wl_offu rfl rfl rfl ?_
   refine wl_offu rfl rfl rfl ?_
   refine wF rfl ?_
   refine wF rfl ?_
   refine wl_offu rfl rfl rfl ?_
   refine wl_offu rfl rfl rfl ?_
   refine wF rfl ?_
   refine wV (v_pick_f rfl rfl rfl) ?_
   refine wl_nil ?_
   refine wc_cond_f rfl ?_
   refine wc_skip ?_
   refine wc_region ?_
   refine wM ?_
   refine wV (v_addi rfl rfl (by omega)) ?_
   refine wA ?_
   refine wl_nil ?_
   exact ⟨i + 1, (sc rfl (sc rfl (sn _))), ⟨by omega, upto_succ ha (by unfold chOk; omega), H.pm (by repeat constructor)⟩, by omega⟩
  have g25p := oF g25
  refine wM ?_
  refine wO g25 ?_
  refine wV (v_geq rfl rfl) ?_
  refine wO g25 ?_
  refine wM ?_
  refine wl_guard rfl rfl rfl (fun g28 => ?_) (fun g28 => ?_)
  rotate_left
  ·have g28p := oF g28
   refine wF g28 ?_
   refine wO g25 ?_
   refine wV (v_pick_f rfl g28 rfl) ?_
   refine wV (v_pick_f rfl g25 rfl) ?_
   refine wM ?_
   refine wO rfl ?_
   refine wM ?_
   refine wO rfl ?_
   refine wV (v_geq rfl rfl) ?_
   refine wO rfl ?_
   refine wM ?_
   refine wl_guard rfl rfl rfl (fun g36 => ?_) (fun g36 => ?_)
   rotate_left
   ·have g36p := oF g36
    refine wF g36 ?_
    refine wO rfl ?_
    refine wV (v_pick_f rfl g36 rfl) ?_
    refine wV (v_pick_f rfl rfl rfl) ?_
    refine wA ?_
    refine wl_nil ?_
    refine wcR ?_
    refine wM ?_
    refine wV (v_not rfl) ?_
    refine wM ?_
    refine wO rfl ?_
    refine wM ?_
    refine wO rfl ?_
    refine wV (v_eql rfl rfl) ?_
    refine wO rfl ?_
    refine wM ?_
    refine wl_guard rfl rfl rfl (fun g46 => ?_) (fun g46 => ?_)
    rotate_left
    ·have g46p := oT g46
     refine wF g46 ?_
     refine wO rfl ?_
     refine wV (v_pick_t rfl g46 rfl) ?_
     refine wO rfl ?_
     refine wM ?_
     refine wF rfl ?_
     refine wF rfl ?_
     refine wO rfl ?_
     refine wV (v_pick_t rfl rfl rfl) ?_
     refine wV (v_pick_t rfl rfl rfl) ?_
     refine wl_nil ?_
     refine wc_cond_t rfl ?_
     refine wcR ?_
     refine wA ?_
     refine wl_nil ?_
     refine wc_ret ?_
     first
       | exact ⟨_, res1 rfl rfl, congrArg Value.bool (dec_eq ⟨fun hd => ⟨by omega, by have := of_decide_eq_true hd; omega, fun j hj => ha j (by omega)⟩, fun hh => decide_eq_true (by obtain ⟨h5, h6, _⟩ := hh; omega)⟩), H.pm (by repeat constructor)⟩
       | exact ⟨_, res1 rfl rfl, congrArg Value.bool (dec_f fun hh => by have h5 := hh.2.2 i (by omega); unfold chOk at h5; omega).symm, H.pm (by repeat constructor)⟩
       | exact ⟨_, res1 rfl rfl, congrArg Value.bool (dec_t ⟨by omega, by omega, fun j hj => ha j (by omega)⟩).symm, H.pm (by repeat constructor)⟩
       | exact ⟨_, res1 rfl rfl, congrArg Value.bool (dec_f fun hh => by obtain ⟨h5, h6, _⟩ := hh; omega).symm, H.pm (by repeat constructor)⟩
    have g46p := oF g46
    refine wM ?_
    refine wO g46 ?_
    refine wV (v_lss rfl rfl) ?_
    refine wO rfl ?_
    refine wV (v_pick_f rfl g46 rfl) ?_
    refine wO rfl ?_
    refine wM ?_
    refine wl_guard rfl rfl rfl (fun g50 => ?_) (fun g50 => ?_)
    rotate_left
    ·have g50p := oT g50
     refine wF g50 ?_
     refine wO rfl ?_
     refine wV (v_pick_t rfl g50 rfl) ?_
     refine wV (v_pick_t rfl rfl rfl) ?_
     refine wl_nil ?_
     refine wc_cond_t rfl ?_
     refine wcR ?_
     refine wA ?_
     refine wl_nil ?_
     refine wc_ret ?_
     first
       | exact ⟨_, res1 rfl rfl, congrArg Value.bool (dec_eq ⟨fun hd => ⟨by omega, by have := of_decide_eq_true hd; omega, fun j hj => ha j (by omega)⟩, fun hh => decide_eq_true (by obtain ⟨h5, h6, _⟩ := hh; omega)⟩), H.pm (by repeat constructor)⟩
       | exact ⟨_, res1 rfl rfl, congrArg Value.bool (dec_f fun hh => by have h5 := hh.2.2 i (by omega); unfold chOk at h5; omega).symm, H.pm (by repeat constructor)⟩
       | exact ⟨_, res1 rfl rfl, congrArg Value.bool (dec_t ⟨by omega, by omega, fun j hj => ha j (by omega)⟩).symm, H.pm (by repeat constructor)⟩
       | exact ⟨_, res1 rfl rfl, congrArg Value.bool (dec_f fun hh => by obtain ⟨h5, h6, _⟩ := hh; omega).symm, H.pm (by repeat constructor)⟩
    have g50p := oF g50
    refine wM ?_
    refine wO g50 ?_
    refine wV (v_gtr rfl rfl) ?_
    refine wO rfl ?_
    refine wV (v_pick_f rfl g50 rfl) ?_
    refine wV (v_pick_t rfl rfl rfl) ?_
    refine wl_nil ?_
    refine wc_cond rfl (fun c2 => ?_) (fun c2 => ?_)
    rotate_left
    ·have c2p := oF c2
     refine wc_skip ?_
     refine wc_region ?_
     refine wM ?_
     refine wV (v_addi rfl rfl (by omega)) ?_
     refine wA ?_
     refine wl_nil ?_
     exact ⟨i + 1, (sc rfl (sc rfl (sn _))), ⟨by omega, upto_succ ha (by unfold chOk; omega), H.pm (by repeat constructor)⟩, by omega⟩
    have c2p := oT c2
    refine wcR ?_
    refine wA ?_
    refine wl_nil ?_
    refine wc_ret ?_
    first
      | exact ⟨_, res1 rfl rfl, congrArg Value.bool (dec_eq ⟨fun hd => ⟨by omega, by have := of_decide_eq_true hd; omega, fun j hj => ha j (by omega)⟩, fun hh => decide_eq_true (by obtain ⟨h5, h6, _⟩ := hh; omega)⟩), H.pm (by repeat constructor)⟩
      | exact ⟨_, res1 rfl rfl, congrArg Value.bool (dec_f fun hh => by have h5 := hh.2.2 i (by omega); unfold chOk at h5; omega).symm, H.pm (by repeat constructor)⟩
      | exact ⟨_, res1 rfl rfl, congrArg Value.bool (dec_t ⟨by omega, by omega, fun j hj => ha j (by omega)⟩).symm, H.pm (by repeat constructor)⟩
      | exact ⟨_, res1 rfl rfl, congrArg Value.bool (dec_f fun hh => by obtain ⟨h5, h6, _⟩ := hh; omega).symm, H.pm (by repeat constructor)⟩
   have g36p := oT g36
   refine wM ?_
   refine wO g36 ?_
   refine wV (v_leq rfl rfl) ?_
   refine wO rfl ?_
   refine wV (v_pick_t rfl g36 rfl) ?_
   refine wV (v_pick_f rfl rfl rfl) ?_
   refine wA ?_
   refine wl_nil ?_
   refine wcR ?_
   refine wM ?_
   refine wV (v_not rfl) ?_
   refine wM ?_
   refine wl_guard rfl rfl rfl (fun g43 => ?_) (fun g43 => ?_)
   rotate_left
   ·have g43p := of_nd_f g43
    refine wF g43 ?_
    refine wF g43 ?_
    refine wl_offu rfl rfl rfl ?_
    refine wl_offu rfl rfl rfl ?_
    refine wF g43 ?_
    refine wF g43 ?_
    refine wl_offu rfl rfl rfl ?_
    refine wl_offu rfl rfl rfl ?_
    refine wF g43 ?_
    refine wV (v_pick_f rfl g43 rfl) ?_
    refine wl_nil ?_
    refine wc_cond_f rfl ?_
    refine wc_skip ?_
    refine wc_region ?_
    refine wM ?_
    refine wV (v_addi rfl rfl (by omega)) ?_
    refine wA ?_
    refine wl_nil ?_
    exact ⟨i + 1, (sc rfl (sc rfl (sn _))), ⟨by omega, upto_succ ha (by unfold chOk; omega), H.pm (by repeat constructor)⟩, by omega⟩
   have g43p := of_nd_t g43
   refine wM ?_
   refine wO g43 ?_
   refine wV (v_eql rfl rfl) ?_
   refine wO g43 ?_
   refine wM ?_
   refine wl_guard rfl rfl rfl (fun g46 => ?_) (fun g46 => ?_)
   rotate_left
   ·have g46p := oT g46
    refine wF g46 ?_
    refine wO g43 ?_
    refine wV (v_pick_t rfl g46 rfl) ?_
    refine wO g43 ?_
    refine wM ?_
    refine wF rfl ?_
    refine wF rfl ?_
    refine wO g43 ?_
    refine wV (v_pick_t rfl rfl rfl) ?_
    refine wV (v_pick_t rfl g43 rfl) ?_
    refine wl_nil ?_
    refine wc_cond_t rfl ?_
    refine wcR ?_
    refine wA ?_
    refine wl_nil ?_
    refine wc_ret ?_
    first
      | exact ⟨_, res1 rfl rfl, congrArg Value.bool (dec_eq ⟨fun hd => ⟨by omega, by have := of_decide_eq_true hd; omega, fun j hj => ha j (by omega)⟩, fun hh => decide_eq_true (by obtain ⟨h5, h6, _⟩ := hh; omega)⟩), H.pm (by repeat constructor)⟩
      | exact ⟨_, res1 rfl rfl, congrArg Value.bool (dec_f fun hh => by have h5 := hh.2.2 i (by omega); unfold chOk at h5; omega).symm, H.pm (by repeat constructor)⟩
      | exact ⟨_, res1 rfl rfl, congrArg Value.bool (dec_t ⟨by omega, by omega, fun j hj => ha j (by omega)⟩).symm, H.pm (by repeat constructor)⟩
      | exact ⟨_, res1 rfl rfl, congrArg Value.bool (dec_f fun hh => by obtain ⟨h5, h6, _⟩ := hh; omega).symm, H.pm (by repeat constructor)⟩
   have g46p := oF g46
   refine wM ?_
   refine wO g46 ?_
   refine wV (v_lss rfl rfl) ?_
   refine wO g43 ?_
   refine wV (v_pick_f rfl g46 rfl) ?_
   refine wO g43 ?_
   refine wM ?_
   refine wl_guard rfl rfl rfl (fun g50 => ?_) (fun g50 => ?_)
   rotate_left
   ·have g50p := oT g50
    refine wF g50 ?_
    refine wO g43 ?_
    refine wV (v_pick_t rfl g50 rfl) ?_
    refine wV (v_pick_t rfl g43 rfl) ?_
    refine wl_nil ?_
    refine wc_cond_t rfl ?_
    refine wcR ?_
    refine wA ?_
    refine wl_nil ?_
    refine wc_ret ?_
    first
      | exact ⟨_, res1 rfl rfl, congrArg Value.bool (dec_eq ⟨fun hd => ⟨by omega, by have := of_decide_eq_true hd; omega, fun j hj => ha j (by omega)⟩, fun hh => decide_eq_true (by obtain ⟨h5, h6, _⟩ := hh; omega)⟩), H.pm (by repeat constructor)⟩
      | exact ⟨_, res1 rfl rfl, congrArg Value.bool (dec_f fun hh => by have h5 := hh.2.2 i (by omega); unfold chOk at h5; omega).symm, H.pm (by repeat constructor)⟩
      | exact ⟨_, res1 rfl rfl, congrArg Value.bool (dec_t ⟨by omega, by omega, fun j hj => ha j (by omega)⟩).symm, H.pm (by repeat constructor)⟩
      | exact ⟨_, res1 rfl rfl, congrArg Value.bool (dec_f fun hh => by obtain ⟨h5, h6, _⟩ := hh; omega).symm, H.pm (by repeat constructor)⟩
   have g50p := oF g50
   refine wM ?_
   refine wO g50 ?_
   refine wV (v_gtr rfl rfl) ?_
   refine wO g43 ?_
   refine wV (v_pick_f rfl g50 rfl) ?_
   refine wV (v_pick_t rfl g43 rfl) ?_
   refine wl_nil ?_
   refine wc_cond rfl (fun c2 => ?_) (fun c2 => ?_)
   rotate_left
   ·have c2p := oF c2
    refine wc_skip ?_
    refine wc_region ?_
    refine wM ?_
    refine wV (v_addi rfl rfl (by omega)) ?_
    refine wA ?_
    refine wl_nil ?_
    exact ⟨i + 1, (sc rfl (sc rfl (sn _))), ⟨by omega, upto_succ ha (by unfold chOk; omega), H.pm (by repeat constructor)⟩, by omega⟩
   have c2p := oT c2
   refine wcR ?_
   refine wA ?_
   refine wl_nil ?_
   refine wc_ret ?_
   first
     | exact ⟨_, res1 rfl rfl, congrArg Value.bool (dec_eq ⟨fun hd => ⟨by omega, by have := of_decide_eq_true hd; omega, fun j hj => ha j (by omega)⟩, fun hh => decide_eq_true (by obtain ⟨h5, h6, _⟩ := hh; omega)⟩), H.pm (by repeat constructor)⟩
     | exact ⟨_, res1 rfl rfl, congrArg Value.bool (dec_f fun hh => by have h5 := hh.2.2 i (by omega); unfold chOk at h5; omega).symm, H.pm (by repeat constructor)⟩
     | exact ⟨_, res1 rfl rfl, congrArg Value.bool (dec_t ⟨by omega, by omega, fun j hj => ha j (by omega)⟩).symm, H.pm (by repeat constructor)⟩
     | exact ⟨_, res1 rfl rfl, congrArg Value.bool (dec_f fun hh => by obtain ⟨h5, h6, _⟩ := hh; omega).symm, H.pm (by repeat constructor)⟩
  have g28p := oT g28
  refine wM ?_
  refine wO g28 ?_
  refine wV (v_leq rfl rfl) ?_
  refine wO g25 ?_
  refine wV (v_pick_t rfl g28 rfl) ?_
  refine wV (v_pick_f rfl g25 rfl) ?_
  refine wM ?_
  refine wl_guard rfl rfl rfl (fun g33 => ?_) (fun g33 => ?_)
  rotate_left
  ·have g33p := oT g33
   refine wF g33 ?_
   refine wF g33 ?_
   refine wl_offu rfl rfl rfl ?_
   refine wl_offu rfl rfl rfl ?_
   refine wF g33 ?_
   refine wV (v_pick_t rfl g33 rfl) ?_
   refine wA ?_
   refine wl_nil ?_
   refine wcR ?_
   refine wM ?_
   refine wV (v_not rfl) ?_
   refine wM ?_
   refine wF rfl ?_
   refine wF rfl ?_
   refine wF rfl ?_
   refine wl_offu rfl rfl rfl ?_
   refine wl_offu rfl rfl rfl ?_
   refine wF rfl ?_
   refine wF rfl ?_
   refine wl_offu rfl rfl rfl ?_
   refine wl_offu rfl rfl rfl ?_
   refine wF rfl ?_
   refine wV (v_pick_f rfl rfl rfl) ?_
   refine wl_nil ?_
   refine wc_cond_f rfl ?_
   refine wc_skip ?_
   refine wc_region ?_
   refine wM ?_
   refine wV (v_addi rfl rfl (by omega)) ?_
   refine wA ?_
   refine wl_nil ?_
   exact ⟨i + 1, (sc rfl (sc rfl (sn _))), ⟨by omega, upto_succ ha (by unfold chOk; omega), H.pm (by repeat constructor)⟩, by omega⟩
  have g33p := oF g33
  refine wM ?_
  refine wO g33 ?_
  refine wV (v_geq rfl rfl) ?_
  refine wO g33 ?_
  refine wM ?_
  refine wl_guard rfl rfl rfl (fun g36 => ?_) (fun g36 => ?_)
  rotate_left
  ·have g36p := oF g36
   refine wF g36 ?_
   refine wO g33 ?_
   refine wV (v_pick_f rfl g36 rfl) ?_
   refine wV (v_pick_f rfl g33 rfl) ?_
   refine wA ?_
   refine wl_nil ?_
   refine wcR ?_
   refine wM ?_
   refine wV (v_not rfl) ?_
   refine wM ?_
   refine wO rfl ?_
   refine wM ?_
   refine wO rfl ?_
   refine wV (v_eql rfl rfl) ?_
   refine wO rfl ?_
   refine wM ?_
   refine wl_guard rfl rfl rfl (fun g46 => ?_) (fun g46 => ?_)
   rotate_left
   ·have g46p := oT g46
    refine wF g46 ?_
    refine wO rfl ?_
    refine wV (v_pick_t rfl g46 rfl) ?_
    refine wO rfl ?_
    refine wM ?_
    refine wF rfl ?_
    refine wF rfl ?_
    refine wO rfl ?_
    refine wV (v_pick_t rfl rfl rfl) ?_
    refine wV (v_pick_t rfl rfl rfl) ?_
    refine wl_nil ?_
    refine wc_cond_t rfl ?_
    refine wcR ?_
    refine wA ?_
    refine wl_nil ?_
    refine wc_ret ?_
    first
      | exact ⟨_, res1 rfl rfl, congrArg Value.bool (dec_eq ⟨fun hd => ⟨by omega, by have := of_decide_eq_true hd; omega, fun j hj => ha j (by omega)⟩, fun hh => decide_eq_true (by obtain ⟨h5, h6, _⟩ := hh; omega)⟩), H.pm (by repeat constructor)⟩
      | exact ⟨_, res1 rfl rfl, congrArg Value.bool (dec_f fun hh => by have h5 := hh.2.2 i (by omega); unfold chOk at h5; omega).symm, H.pm (by repeat constructor)⟩
      | exact ⟨_, res1 rfl rfl, congrArg Value.bool (dec_t ⟨by omega, by omega, fun j hj => ha j (by omega)⟩).symm, H.pm (by repeat constructor)⟩
      | exact ⟨_, res1 rfl rfl, congrArg Value.bool (dec_f fun hh => by obtain ⟨h5, h6, _⟩ := hh; omega).symm, H.pm (by repeat constructor)⟩
   have g46p := oF g46
   refine wM ?_
   refine wO g46 ?_
   refine wV (v_lss rfl rfl) ?_
   refine wO rfl ?_
   refine wV (v_pick_f rfl g46 rfl) ?_
   refine wO rfl ?_
   refine wM ?_
   refine wl_guard rfl rfl rfl (fun g50 => ?_) (fun g50 => ?_)
   rotate_left
   ·have g50p := oT g50
    refine wF g50 ?_
    refine wO rfl ?_
    refine wV (v_pick_t rfl g50 rfl) ?_
    refine wV (v_pick_t rfl rfl rfl) ?_
    refine wl_nil ?_
    refine wc_cond_t rfl ?_
    refine wcR ?_
    refine wA ?_
    refine wl_nil ?_
    refine wc_ret ?_
    first
      | exact ⟨_, res1 rfl rfl, congrArg Value.bool (dec_eq ⟨fun hd => ⟨by omega, by have := of_decide_eq_true hd; omega, fun j hj => ha j (by omega)⟩, fun hh => decide_eq_true (by obtain ⟨h5, h6, _⟩ := hh; omega)⟩), H.pm (by repeat constructor)⟩
      | exact ⟨_, res1 rfl rfl, congrArg Value.bool (dec_f fun hh => by have h5 := hh.2.2 i (by omega); unfold chOk at h5; omega).symm, H.pm (by repeat constructor)⟩
      | exact ⟨_, res1 rfl rfl, congrArg Value.bool (dec_t ⟨by omega, by omega, fun j hj => ha j (by omega)⟩).symm, H.pm (by repeat constructor)⟩
      | exact ⟨_, res1 rfl rfl, congrArg Value.bool (dec_f fun hh => by obtain ⟨h5, h6, _⟩ := hh; omega).symm, H.pm (by repeat constructor)⟩
   have g50p := oF g50
   refine wM ?_
   refine wO g50 ?_
   refine wV (v_gtr rfl rfl) ?_
   refine wO rfl ?_
   refine wV (v_pick_f rfl g50 rfl) ?_
   refine wV (v_pick_t rfl rfl rfl) ?_
   refine wl_nil ?_
   refine wc_cond rfl (fun c2 => ?_) (fun c2 => ?_)
   rotate_left
   ·have c2p := oF c2
    refine wc_skip ?_
    refine wc_region ?_
    refine wM ?_
    refine wV (v_addi rfl rfl (by omega)) ?_
    refine wA ?_
    refine wl_nil ?_
    exact ⟨i + 1, (sc rfl (sc rfl (sn _))), ⟨by omega, upto_succ ha (by unfold chOk; omega), H.pm (by repeat constructor)⟩, by omega⟩
   have c2p := oT c2
   refine wcR ?_
   refine wA ?_
   refine wl_nil ?_
   refine wc_ret ?_
   first
     | exact ⟨_, res1 rfl rfl, congrArg Value.bool (dec_eq ⟨fun hd => ⟨by omega, by have := of_decide_eq_true hd; omega, fun j hj => ha j (by omega)⟩, fun hh => decide_eq_true (by obtain ⟨h5, h6, _⟩ := hh; omega)⟩), H.pm (by repeat constructor)⟩
     | exact ⟨_, res1 rfl rfl, congrArg Value.bool (dec_f fun hh => by have h5 := hh.2.2 i (by omega); unfold chOk at h5; omega).symm, H.pm (by repeat constructor)⟩
     | exact ⟨_, res1 rfl rfl, congrArg Value.bool (dec_t ⟨by omega, by omega, fun j hj => ha j (by omega)⟩).symm, H.pm (by repeat constructor)⟩
     | exact ⟨_, res1 rfl rfl, congrArg Value.bool (dec_f fun hh => by obtain ⟨h5, h6, _⟩ := hh; omega).symm, H.pm (by repeat constructor)⟩
  have g36p := oT g36
  refine wM ?_
  refine wO g36 ?_
  refine wV (v_leq rfl rfl) ?_
  refine wO g33 ?_
  refine wV (v_pick_t rfl g36 rfl) ?_
  refine wV (v_pick_f rfl g33 rfl) ?_
  refine wA ?_
  refine wl_nil ?_
  refine wcR ?_
  refine wM ?_
  refine wV (v_not rfl) ?_
  refine wM ?_
  refine wl_guard rfl rfl rfl (fun g43 => ?_) (fun g43 => ?_)
  rotate_left
  ·have g43p := of_nd_f g43
   refine wF g43 ?_
   refine wF g43 ?_
   refine wl_offu rfl rfl rfl ?_
   refine wl_offu rfl rfl rfl ?_
   refine wF g43 ?_
   refine wF g43 ?_
   refine wl_offu rfl rfl rfl ?_
   refine wl_offu rfl rfl rfl ?_
   refine wF g43 ?_
   refine wV (v_pick_f rfl g43 rfl) ?_
   refine wl_nil ?_
   refine wc_cond_f rfl ?_
   refine wc_skip ?_
   refine wc_region ?_
   refine wM ?_
   refine wV (v_addi rfl rfl (by omega)) ?_
   refine wA ?_
   refine wl_nil ?_
   exact ⟨i + 1, (sc rfl (sc rfl (sn _))), ⟨by omega, upto_succ ha (by unfold chOk; omega), H.pm (by repeat constructor)⟩, by omega⟩
  have g43p := of_nd_t g43
  refine wM ?_
  refine wO g43 ?_
  refine wV (v_eql rfl rfl) ?_
  refine wO g43 ?_
  refine wM ?_
  refine wl_guard rfl rfl rfl (fun g46 => ?_) (fun g46 => ?_)
  rotate_left
  ·have g46p := oT g46
   refine wF g46 ?_
   refine wO g43 ?_
   refine wV (v_pick_t rfl g46 rfl) ?_
   refine wO g43 ?_
   refine wM ?_
   refine wF rfl ?_
   refine wF rfl ?_
   refine wO g43 ?_
   refine wV (v_pick_t rfl rfl rfl) ?_
   refine wV (v_pick_t rfl g43 rfl) ?_
   refine wl_nil ?_
   refine wc_cond_t rfl ?_
   refine wcR ?_
   refine wA ?_
   refine wl_nil ?_
   refine wc_ret ?_
   first
     | exact ⟨_, res1 rfl rfl, congrArg Value.bool (dec_eq ⟨fun hd => ⟨by omega, by have := of_decide_eq_true hd; omega, fun j hj => ha j (by omega)⟩, fun hh => decide_eq_true (by obtain ⟨h5, h6, _⟩ := hh; omega)⟩), H.pm (by repeat constructor)⟩
     | exact ⟨_, res1 rfl rfl, congrArg Value.bool (dec_f fun hh => by have h5 := hh.2.2 i (by omega); unfold chOk at h5; omega).symm, H.pm (by repeat constructor)⟩
     | exact ⟨_, res1 rfl rfl, congrArg Value.bool (dec_t ⟨by omega, by omega, fun j hj => ha j (by omega)⟩).symm, H.pm (by repeat constructor)⟩
     | exact ⟨_, res1 rfl rfl, congrArg Value.bool (dec_f fun hh => by obtain ⟨h5, h6, _⟩ := hh; omega).symm, H.pm (by repeat constructor)⟩
  have g46p := oF g46
  refine wM ?_
  refine wO g46 ?_
  refine wV (v_lss rfl rfl) ?_
  refine wO g43 ?_
  refine wV (v_pick_f rfl g46 rfl) ?_
  refine wO g43 ?_
  refine wM ?_
  refine wl_guard rfl rfl rfl (fun g50 => ?_) (fun g50 => ?_)
  rotate_left
  ·have g50p := oT g50
   refine wF g50 ?_
   refine wO g43 ?_
   refine wV (v_pick_t rfl g50 rfl) ?_
   refine wV (v_pick_t rfl g43 rfl) ?_
   refine wl_nil ?_
   refine wc_cond_t rfl ?_
   refine wcR ?_
   refine wA ?_
   refine wl_nil ?_
   refine wc_ret ?_
   first
     | exact ⟨_, res1 rfl rfl, congrArg Value.bool (dec_eq ⟨fun hd => ⟨by omega, by have := of_decide_eq_true hd; omega, fun j hj => ha j (by omega)⟩, fun hh => decide_eq_true (by obtain ⟨h5, h6, _⟩ := hh; omega)⟩), H.pm (by repeat constructor)⟩
     | exact ⟨_, res1 rfl rfl, congrArg Value.bool (dec_f fun hh => by have h5 := hh.2.2 i (by omega); unfold chOk at h5; omega).symm, H.pm (by repeat constructor)⟩
     | exact ⟨_, res1 rfl rfl, congrArg Value.bool (dec_t ⟨by omega, by omega, fun j hj => ha j (by omega)⟩).symm, H.pm (by repeat constructor)⟩
     | exact ⟨_, res1 rfl rfl, congrArg Value.bool (dec_f fun hh => by obtain ⟨h5, h6, _⟩ := hh; omega).symm, H.pm (by repeat constructor)⟩
  have g50p := oF g50
  refine wM ?_
  refine wO g50 ?_
  refine wV (v_gtr rfl rfl) ?_
  refine wO g43 ?_
  refine wV (v_pick_f rfl g50 rfl) ?_
  refine wV (v_pick_t rfl g43 rfl) ?_
  refine wl_nil ?_
  refine wc_cond rfl (fun c2 => ?_) (fun c2 => ?_)
  rotate_left
  ·have c2p := oF c2
   refine wc_skip ?_
   refine wc_region ?_
   refine wM ?_
   refine wV (v_addi rfl rfl (by omega)) ?_
   refine wA ?_
   refine wl_nil ?_
   exact ⟨i + 1, (sc rfl (sc rfl (sn _))), ⟨by omega, upto_succ ha (by unfold chOk; omega), H.pm (by repeat constructor)⟩, by omega⟩
  have c2p := oT c2
  refine wcR ?_
  refine wA ?_
  refine wl_nil ?_
  refine wc_ret ?_
  first
    | exact ⟨_, res1 rfl rfl, congrArg Value.bool (dec_eq ⟨fun hd => ⟨by omega, by have := of_decide_eq_true hd; omega, fun j hj => ha j (by omega)⟩, fun hh => decide_eq_true (by obtain ⟨h5, h6, _⟩ := hh; omega)⟩), H.pm (by repeat constructor)⟩
    | exact ⟨_, res1 rfl rfl, congrArg Value.bool (dec_f fun hh => by have h5 := hh.2.2 i (by omega); unfold chOk at h5; omega).symm, H.pm (by repeat constructor)⟩
    | exact ⟨_, res1 rfl rfl, congrArg Value.bool (dec_t ⟨by omega, by omega, fun j hj => ha j (by omega)⟩).symm, H.pm (by repeat constructor)⟩
    | exact ⟨_, res1 rfl rfl, congrArg Value.bool (dec_f fun hh => by obtain ⟨h5, h6, _⟩ := hh; omega).symm, H.pm (by repeat constructor)⟩
end Go.Proofs.Ytgdemplcpcacaaa.NameW
