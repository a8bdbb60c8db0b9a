/- A node's type: the program's answer. The functions answer on the grammar of one production. Whether two nodes are the same. A production's action put in the place of another: rows of productions of the call's own; what it changes. -/
import Derived.Test.YtgdemplcpcacaaaProg
import Derived.Test.YtgdemplcpcacaaaK12
import Derived.Test.YtgdemplcpcacaaaK03
import Derived.Test.YtgdemplcpcacaaaK06
import Derived.Test.YtgdemplcpcacaaaK11
import Derived.Test.YtgdemplcpcacaaaK02
set_option linter.unusedVariables false
set_option linter.unusedSimpArgs false
/-! A node's type: the program's answer. -/
namespace Go.Proofs.Ytgdemplcpcacaaa.PTyped
open Go Go.RowKit Go.Proofs.YtgdemplcpcacaaaFx Go.Proofs.Ytgdemplcpcacaaa.NameW Go.Proofs.Ytgdemplcpcacaaa.KindsW Go.Proofs.Ytgdemplcpcacaaa.KnownD Go.Proofs.Ytgdemplcpcacaaa.TypD
theorem agg24 : Agg Try.prog 24 4 := agg_of Try.underlying24 (by kernel_rfl)
theorem en48 : Enters Try.prog 48 := enters Try.func48 (by kernel_rfl) rfl
theorem en53 : Enters Try.prog 53 := enters Try.func53 (by kernel_rfl) rfl
theorem fa126_1 : FieldAt Try.prog 126 1 1 := field_at (sz := 0) Try.underlying126 rfl (by kernel_rfl) rfl
theorem fa126_2 : FieldAt Try.prog 126 2 2 := field_at (sz := 0) Try.underlying126 rfl (by kernel_rfl) rfl
theorem fa24_0 : FieldAt Try.prog 24 0 0 := field_at (sz := 0) Try.underlying24 rfl (by kernel_rfl) rfl
theorem fa24_1 : FieldAt Try.prog 24 1 1 := field_at (sz := 0) Try.underlying24 rfl (by kernel_rfl) rfl
theorem fa24_2 : FieldAt Try.prog 24 2 2 := field_at (sz := 0) Try.underlying24 rfl (by kernel_rfl) rfl
theorem fa24_3 : FieldAt Try.prog 24 3 3 := field_at (sz := 0) Try.underlying24 rfl (by kernel_rfl) rfl
theorem fa80_1 : FieldAt Try.prog 80 1 1 := field_at (sz := 0) Try.underlying80 rfl (by kernel_rfl) rfl
theorem mixed : Try.prog.follows .mixedOrders = true := by kernel_rfl
theorem one123 : One Try.prog 123 := one_of Try.underlying123 rfl (by kernel_rfl)
theorem one124 : One Try.prog 124 := one_of Try.underlying124 rfl (by kernel_rfl)
theorem one22 : One Try.prog 22 := one_of Try.underlying22 rfl (by kernel_rfl)
theorem one3 : One Try.prog 3 := one_of Try.underlying3 rfl (by kernel_rfl)
theorem one40 : One Try.prog 40 := one_of Try.underlying40 rfl (by kernel_rfl)
theorem one9 : One Try.prog 9 := one_of Try.underlying9 rfl (by kernel_rfl)
theorem sz24 : ∀ W, (sizeOf 24).run Try.prog W = .ok 4 W := size_of (by kernel_rfl)
theorem sz80 : ∀ W, (sizeOf 80).run Try.prog W = .ok 2 W := size_of (by kernel_rfl)
theorem sz9 : ∀ W, (sizeOf 9).run Try.prog W = .ok 1 W := size_of (by kernel_rfl)
theorem zv24 : ∀ W, (zeroValue 24).run Try.prog W = .ok (.agg #[.int .i64 0, .string ⟨#[]⟩, .int .i64 0, .slice none 0 0]) W := zero_of (by kernel_rfl)
theorem zv80 : ∀ W, (zeroValue 80).run Try.prog W = .ok (.agg #[.string ⟨#[]⟩, .slice none 0 0]) W := zero_of (by kernel_rfl)
theorem zv9 : ∀ W, (zeroValue 9).run Try.prog W = .ok (.string ⟨#[]⟩) W := zero_of (by kernel_rfl)

def ValDOk (P : List (ByteArray × Ct)) (t : Nd) : Prop := ∀ (w : World) (B : Option Addr) (k bd b0 b1 b2 : Nat) (ns : List ByteArray) (name : ByteArray) (fC : ByteArray → Option Value) (hds : DsR w bd b0 b1 b2 ns P fC) (hr : Rd (kTr fNd) w B t.kids) (hf : t.All smallN), Calls Try.prog 53 #[.pointer (some ⟨bd, 0, none⟩), .agg #[.int .i64 t.x.kind, .string t.x.name, .int .i64 t.x.tok, .slice B t.kids.length k], .string name] w fun e w' => ∃ v, e = .returned v ∧ v = .bool (dec (fitN P t name)) ∧ Holds w [] w'

set_option maxHeartbeats 6400000 in
set_option maxRecDepth 100000 in
theorem dvalue_step {P : List (ByteArray × Ct)} {t : Nd} {w : World} {B : Option Addr} {k bd b0 b1 b2 : Nat} {ns : List ByteArray} {name : ByteArray} {fC : ByteArray → Option Value} (hds : DsR w bd b0 b1 b2 ns P fC) (hr : Rd (kTr fNd) w B t.kids) (hf : t.All smallN) (ih : ∀ t' ∈ t.kids, ValDOk P t') : Calls Try.prog 53 #[.pointer (some ⟨bd, 0, none⟩), .agg #[.int .i64 t.x.kind, .string t.x.name, .int .i64 t.x.tok, .slice B t.kids.length k], .string name] w fun e w' => ∃ v, e = .returned v ∧ v = .bool (dec (fitN P t name)) ∧ Holds w [] w' := by
  obtain ⟨⟨hsz, hkk⟩, hks⟩ := (Tr.All_eq t).1 hf
  have hdc := hds.c
  have hC := hds.r
  obtain ⟨N1, S1, hM1⟩ := hds.m1
  obtain ⟨N2, S2, hM2⟩ := hds.m2
  refine calls_of Try.func53 rfl Try.ntmps53 rfl ?_
  have H := Holds.start w
  refine wcR ?_
  refine wl_box (cs := [_, _, _, _]) H rfl rfl rfl ?_
  intro b4 w1 hb4 H2
  refine wA ?_
  refine wl_nil ?_
  refine wc_seq ?_
  refine wcR ?_
  refine wV (v_fb (o2 := 0) fa24_0 rfl rfl) ?_
  refine wV (v_load one3 rfl (H2.at (by repeat constructor) rfl)) ?_
  refine wl_nil ?_
  refine wc_block ?_
  refine wcR ?_
  refine wV (v_eql rfl rfl) ?_
  refine wA ?_
  refine wl_nil ?_
  refine wc_cond rfl (fun c0 => ?_) (fun c0 => ?_)
  ·have c0p := of_decide_eq_true c0
   refine wcR ?_
   refine wM ?_
   refine wV (v_eqls rfl rfl) ?_
   refine wM ?_
   refine wl_guard rfl rfl rfl (fun g17 => ?_) (fun g17 => ?_)
   ·have g17p := of_decide_eq_true g17
    refine wV (v_fb (o2 := 1) fa24_1 rfl rfl) ?_
    refine wO g17 ?_
    refine wV (v_load one9 rfl (H2.at (by repeat constructor) rfl)) ?_
    refine wO g17 ?_
    refine wV (v_eqls rfl rfl) ?_
    refine wV (v_pick_t rfl g17 rfl) ?_
    refine wM ?_
    refine wl_guard rfl rfl rfl (fun g22 => ?_) (fun g22 => ?_)
    ·have g22p := of_decide_eq_true g22
     refine wV (v_fb (o2 := 2) fa24_2 rfl rfl) ?_
     refine wO g22 ?_
     refine wV (v_load one3 rfl (H2.at (by repeat constructor) rfl)) ?_
     refine wO g22 ?_
     refine wV (v_eql rfl rfl) ?_
     refine wV (v_pick_t rfl g22 rfl) ?_
     refine wM ?_
     refine wl_guard rfl rfl rfl (fun g27 => ?_) (fun g27 => ?_)
     ·have g27p := of_decide_eq_true g27
      refine wV (v_fb (o2 := 3) fa24_3 rfl rfl) ?_
      refine wO g27 ?_
      refine wV (v_load one22 rfl (H2.at (by repeat constructor) rfl)) ?_
      refine wO g27 ?_
      refine wV (v_len Try.underlying22 rfl) ?_
      refine wO g27 ?_
      refine wV (v_eql rfl rfl) ?_
      refine wV (v_pick_t rfl g27 rfl) ?_
      refine wA ?_
      refine wl_nil ?_
      refine wc_ret ?_
      first
        | (have q_ := c0p
           first
             | exact ⟨_, res1 rfl rfl, congrArg Value.bool (dec_eq ⟨fun hd => (fit0 c0p).2 ⟨g17p, g22p, by omega, by (have h_ := of_decide_eq_true hd; omega)⟩, fun hh => decide_eq_true (by have h_ := (fit0 c0p).1 hh; omega)⟩), H2.pm (Pm.nil _)⟩
             | exact ⟨_, res1 rfl rfl, congrArg Value.bool (dec_f fun hh => by (have h_ := (fit0 c0p).1 hh; first | omega | exact g17p h_.1 | exact g22p h_.2.1)).symm, H2.pm (Pm.nil _)⟩)
        | (have q_ := c1p
           first
             | exact ⟨_, res1 rfl rfl, congrArg Value.bool (dec_eq ⟨fun hd => (fit1 c1p).2 ⟨g37p, by omega, g47p, by (have h_ := of_decide_eq_true hd; omega)⟩, fun hh => decide_eq_true (by have h_ := (fit1 c1p).1 hh; omega)⟩), H2.pm (Pm.nil _)⟩
             | exact ⟨_, res1 rfl rfl, congrArg Value.bool (dec_f fun hh => by (have h_ := (fit1 c1p).1 hh; first | omega | exact g37p h_.1 | exact g47p h_.2.2.1)).symm, H2.pm (Pm.nil _)⟩)
        | (have q_ := c2p
           first
             | exact ⟨_, res1 rfl rfl, congrArg Value.bool (dec_eq ⟨fun hd => (fit2 c2p).2 ⟨g57p, by omega, by (have h_ := of_decide_eq_true hd; omega)⟩, fun hh => decide_eq_true (by have h_ := (fit2 c2p).1 hh; omega)⟩), H2.pm (Pm.nil _)⟩
             | exact ⟨_, res1 rfl rfl, congrArg Value.bool (dec_f fun hh => by (have h_ := (fit2 c2p).1 hh; first | omega | exact g57p h_.1 | exact g57p h_.1)).symm, H2.pm (Pm.nil _)⟩)
        | exact ⟨_, res1 rfl rfl, congrArg Value.bool (dec_f (fitx c0p c1p c2p c3p)).symm, H2.pm (Pm.nil _)⟩
        | (have q_ := c6p
           exact ⟨_, res1 rfl rfl, congrArg Value.bool (dec_f fun hh => of_ndec (of_n_t c6) ((fitNs_iff _ _).1 ((fit3_f c3p hp).1 hh).2.2.2 i hin)).symm, H2.pm (Pm.nil _)⟩)
        | (have q_ := c5p
           exact ⟨_, res1 rfl rfl, congrArg Value.bool (dec_t ((fit3_f c3p hp).2 ⟨g93p, by omega, by omega, (fitNs_iff _ _).2 fun j hj => ha j (by omega)⟩)).symm, H2.pm (Pm.nil _)⟩)
        | (exact ⟨_, res1 rfl rfl, congrArg Value.bool (dec_f fun hh => by
             obtain ⟨p, hp, h1_, h2_, h3_, _⟩ := (fit3 c3p).1 hh
             first
               | (have h_ := hq4.symm.trans g82p; rw [hp] at h_; cases h_; done)
               | (rw [ofF_get hp] at g93p; exact g93p h1_)
               | omega
               | (have h_ := hq5 p hp; rw [h_] at c4p; omega)).symm, H2.pm (Pm.nil _)⟩)
     ·have g27p := of_decide_eq_false g27
      refine wF g27 ?_
      refine wF g27 ?_
      refine wF g27 ?_
      refine wV (v_pick_f rfl g27 rfl) ?_
      refine wA ?_
      refine wl_nil ?_
      refine wc_ret ?_
      first
        | (have q_ := c0p
           first
             | exact ⟨_, res1 rfl rfl, congrArg Value.bool (dec_eq ⟨fun hd => (fit0 c0p).2 ⟨g17p, g22p, by omega, by (have h_ := of_decide_eq_true hd; omega)⟩, fun hh => decide_eq_true (by have h_ := (fit0 c0p).1 hh; omega)⟩), H2.pm (Pm.nil _)⟩
             | exact ⟨_, res1 rfl rfl, congrArg Value.bool (dec_f fun hh => by (have h_ := (fit0 c0p).1 hh; first | omega | exact g17p h_.1 | exact g22p h_.2.1)).symm, H2.pm (Pm.nil _)⟩)
        | (have q_ := c1p
           first
             | exact ⟨_, res1 rfl rfl, congrArg Value.bool (dec_eq ⟨fun hd => (fit1 c1p).2 ⟨g37p, by omega, g47p, by (have h_ := of_decide_eq_true hd; omega)⟩, fun hh => decide_eq_true (by have h_ := (fit1 c1p).1 hh; omega)⟩), H2.pm (Pm.nil _)⟩
             | exact ⟨_, res1 rfl rfl, congrArg Value.bool (dec_f fun hh => by (have h_ := (fit1 c1p).1 hh; first | omega | exact g37p h_.1 | exact g47p h_.2.2.1)).symm, H2.pm (Pm.nil _)⟩)
        | (have q_ := c2p
           first
             | exact ⟨_, res1 rfl rfl, congrArg Value.bool (dec_eq ⟨fun hd => (fit2 c2p).2 ⟨g57p, by omega, by (have h_ := of_decide_eq_true hd; omega)⟩, fun hh => decide_eq_true (by have h_ := (fit2 c2p).1 hh; omega)⟩), H2.pm (Pm.nil _)⟩
             | exact ⟨_, res1 rfl rfl, congrArg Value.bool (dec_f fun hh => by (have h_ := (fit2 c2p).1 hh; first | omega | exact g57p h_.1 | exact g57p h_.1)).symm, H2.pm (Pm.nil _)⟩)
        | exact ⟨_, res1 rfl rfl, congrArg Value.bool (dec_f (fitx c0p c1p c2p c3p)).symm, H2.pm (Pm.nil _)⟩
        | (have q_ := c6p
           exact ⟨_, res1 rfl rfl, congrArg Value.bool (dec_f fun hh => of_ndec (of_n_t c6) ((fitNs_iff _ _).1 ((fit3_f c3p hp).1 hh).2.2.2 i hin)).symm, H2.pm (Pm.nil _)⟩)
        | (have q_ := c5p
           exact ⟨_, res1 rfl rfl, congrArg Value.bool (dec_t ((fit3_f c3p hp).2 ⟨g93p, by omega, by omega, (fitNs_iff _ _).2 fun j hj => ha j (by omega)⟩)).symm, H2.pm (Pm.nil _)⟩)
        | (exact ⟨_, res1 rfl rfl, congrArg Value.bool (dec_f fun hh => by
             obtain ⟨p, hp, h1_, h2_, h3_, _⟩ := (fit3 c3p).1 hh
             first
               | (have h_ := hq4.symm.trans g82p; rw [hp] at h_; cases h_; done)
               | (rw [ofF_get hp] at g93p; exact g93p h1_)
               | omega
               | (have h_ := hq5 p hp; rw [h_] at c4p; omega)).symm, H2.pm (Pm.nil _)⟩)
    ·have g22p := of_decide_eq_false g22
     refine wF g22 ?_
     refine wF g22 ?_
     refine wV (v_pick_f rfl g22 rfl) ?_
     refine wM ?_
     refine wF rfl ?_
     refine wF rfl ?_
     refine wF rfl ?_
     refine wF rfl ?_
     refine wV (v_pick_f rfl rfl rfl) ?_
     refine wA ?_
     refine wl_nil ?_
     refine wc_ret ?_
     first
       | (have q_ := c0p
          first
            | exact ⟨_, res1 rfl rfl, congrArg Value.bool (dec_eq ⟨fun hd => (fit0 c0p).2 ⟨g17p, g22p, by omega, by (have h_ := of_decide_eq_true hd; omega)⟩, fun hh => decide_eq_true (by have h_ := (fit0 c0p).1 hh; omega)⟩), H2.pm (Pm.nil _)⟩
            | exact ⟨_, res1 rfl rfl, congrArg Value.bool (dec_f fun hh => by (have h_ := (fit0 c0p).1 hh; first | omega | exact g17p h_.1 | exact g22p h_.2.1)).symm, H2.pm (Pm.nil _)⟩)
       | (have q_ := c1p
          first
            | exact ⟨_, res1 rfl rfl, congrArg Value.bool (dec_eq ⟨fun hd => (fit1 c1p).2 ⟨g37p, by omega, g47p, by (have h_ := of_decide_eq_true hd; omega)⟩, fun hh => decide_eq_true (by have h_ := (fit1 c1p).1 hh; omega)⟩), H2.pm (Pm.nil _)⟩
            | exact ⟨_, res1 rfl rfl, congrArg Value.bool (dec_f fun hh => by (have h_ := (fit1 c1p).1 hh; first | omega | exact g37p h_.1 | exact g47p h_.2.2.1)).symm, H2.pm (Pm.nil _)⟩)
       | (have q_ := c2p
          first
            | exact ⟨_, res1 rfl rfl, congrArg Value.bool (dec_eq ⟨fun hd => (fit2 c2p).2 ⟨g57p, by omega, by (have h_ := of_decide_eq_true hd; omega)⟩, fun hh => decide_eq_true (by have h_ := (fit2 c2p).1 hh; omega)⟩), H2.pm (Pm.nil _)⟩
            | exact ⟨_, res1 rfl rfl, congrArg Value.bool (dec_f fun hh => by (have h_ := (fit2 c2p).1 hh; first | omega | exact g57p h_.1 | exact g57p h_.1)).symm, H2.pm (Pm.nil _)⟩)
       | exact ⟨_, res1 rfl rfl, congrArg Value.bool (dec_f (fitx c0p c1p c2p c3p)).symm, H2.pm (Pm.nil _)⟩
       | (have q_ := c6p
          exact ⟨_, res1 rfl rfl, congrArg Value.bool (dec_f fun hh => of_ndec (of_n_t c6) ((fitNs_iff _ _).1 ((fit3_f c3p hp).1 hh).2.2.2 i hin)).symm, H2.pm (Pm.nil _)⟩)
       | (have q_ := c5p
          exact ⟨_, res1 rfl rfl, congrArg Value.bool (dec_t ((fit3_f c3p hp).2 ⟨g93p, by omega, by omega, (fitNs_iff _ _).2 fun j hj => ha j (by omega)⟩)).symm, H2.pm (Pm.nil _)⟩)
       | (exact ⟨_, res1 rfl rfl, congrArg Value.bool (dec_f fun hh => by
            obtain ⟨p, hp, h1_, h2_, h3_, _⟩ := (fit3 c3p).1 hh
            first
              | (have h_ := hq4.symm.trans g82p; rw [hp] at h_; cases h_; done)
              | (rw [ofF_get hp] at g93p; exact g93p h1_)
              | omega
              | (have h_ := hq5 p hp; rw [h_] at c4p; omega)).symm, H2.pm (Pm.nil _)⟩)
   ·have g17p := of_decide_eq_false g17
    refine wF g17 ?_
    refine wF g17 ?_
    refine wV (v_pick_f rfl g17 rfl) ?_
    refine wM ?_
    refine wF rfl ?_
    refine wF rfl ?_
    refine wF rfl ?_
    refine wV (v_pick_f rfl rfl rfl) ?_
    refine wM ?_
    refine wF rfl ?_
    refine wF rfl ?_
    refine wF rfl ?_
    refine wF rfl ?_
    refine wV (v_pick_f rfl rfl rfl) ?_
    refine wA ?_
    refine wl_nil ?_
    refine wc_ret ?_
    first
      | (have q_ := c0p
         first
           | exact ⟨_, res1 rfl rfl, congrArg Value.bool (dec_eq ⟨fun hd => (fit0 c0p).2 ⟨g17p, g22p, by omega, by (have h_ := of_decide_eq_true hd; omega)⟩, fun hh => decide_eq_true (by have h_ := (fit0 c0p).1 hh; omega)⟩), H2.pm (Pm.nil _)⟩
           | exact ⟨_, res1 rfl rfl, congrArg Value.bool (dec_f fun hh => by (have h_ := (fit0 c0p).1 hh; first | omega | exact g17p h_.1 | exact g22p h_.2.1)).symm, H2.pm (Pm.nil _)⟩)
      | (have q_ := c1p
         first
           | exact ⟨_, res1 rfl rfl, congrArg Value.bool (dec_eq ⟨fun hd => (fit1 c1p).2 ⟨g37p, by omega, g47p, by (have h_ := of_decide_eq_true hd; omega)⟩, fun hh => decide_eq_true (by have h_ := (fit1 c1p).1 hh; omega)⟩), H2.pm (Pm.nil _)⟩
           | exact ⟨_, res1 rfl rfl, congrArg Value.bool (dec_f fun hh => by (have h_ := (fit1 c1p).1 hh; first | omega | exact g37p h_.1 | exact g47p h_.2.2.1)).symm, H2.pm (Pm.nil _)⟩)
      | (have q_ := c2p
         first
           | exact ⟨_, res1 rfl rfl, congrArg Value.bool (dec_eq ⟨fun hd => (fit2 c2p).2 ⟨g57p, by omega, by (have h_ := of_decide_eq_true hd; omega)⟩, fun hh => decide_eq_true (by have h_ := (fit2 c2p).1 hh; omega)⟩), H2.pm (Pm.nil _)⟩
           | exact ⟨_, res1 rfl rfl, congrArg Value.bool (dec_f fun hh => by (have h_ := (fit2 c2p).1 hh; first | omega | exact g57p h_.1 | exact g57p h_.1)).symm, H2.pm (Pm.nil _)⟩)
      | exact ⟨_, res1 rfl rfl, congrArg Value.bool (dec_f (fitx c0p c1p c2p c3p)).symm, H2.pm (Pm.nil _)⟩
      | (have q_ := c6p
         exact ⟨_, res1 rfl rfl, congrArg Value.bool (dec_f fun hh => of_ndec (of_n_t c6) ((fitNs_iff _ _).1 ((fit3_f c3p hp).1 hh).2.2.2 i hin)).symm, H2.pm (Pm.nil _)⟩)
      | (have q_ := c5p
         exact ⟨_, res1 rfl rfl, congrArg Value.bool (dec_t ((fit3_f c3p hp).2 ⟨g93p, by omega, by omega, (fitNs_iff _ _).2 fun j hj => ha j (by omega)⟩)).symm, H2.pm (Pm.nil _)⟩)
      | (exact ⟨_, res1 rfl rfl, congrArg Value.bool (dec_f fun hh => by
           obtain ⟨p, hp, h1_, h2_, h3_, _⟩ := (fit3 c3p).1 hh
           first
             | (have h_ := hq4.symm.trans g82p; rw [hp] at h_; cases h_; done)
             | (rw [ofF_get hp] at g93p; exact g93p h1_)
             | omega
             | (have h_ := hq5 p hp; rw [h_] at c4p; omega)).symm, H2.pm (Pm.nil _)⟩)
  ·have c0p := of_decide_eq_false c0
   refine wcR ?_
   refine wV (v_eql rfl rfl) ?_
   refine wA ?_
   refine wl_nil ?_
   refine wc_cond rfl (fun c1 => ?_) (fun c1 => ?_)
   ·have c1p := of_decide_eq_true c1
    refine wcR ?_
    refine wM ?_
    refine wV (v_eqls rfl rfl) ?_
    refine wM ?_
    refine wl_guard rfl rfl rfl (fun g37 => ?_) (fun g37 => ?_)
    ·have g37p := of_decide_eq_true g37
     refine wV (v_fb (o2 := 2) fa24_2 rfl rfl) ?_
     refine wO g37 ?_
     refine wV (v_load one3 rfl (H2.at (by repeat constructor) rfl)) ?_
     refine wO g37 ?_
     refine wV (v_geq rfl rfl) ?_
     refine wV (v_pick_t rfl g37 rfl) ?_
     refine wM ?_
     refine wl_guard rfl rfl rfl (fun g42 => ?_) (fun g42 => ?_)
     ·have g42p := of_decide_eq_true g42
      refine wV (v_fb (o2 := 1) fa24_1 rfl rfl) ?_
      refine wO g42 ?_
      refine wV (v_load one9 rfl (H2.at (by repeat constructor) rfl)) ?_
      refine wO g42 ?_
      refine wV (v_eqls rfl rfl) ?_
      refine wV (v_pick_t rfl g42 rfl) ?_
      refine wM ?_
      refine wl_guard rfl rfl rfl (fun g47 => ?_) (fun g47 => ?_)
      ·have g47p := of_decide_eq_true g47
       refine wV (v_fb (o2 := 3) fa24_3 rfl rfl) ?_
       refine wO g47 ?_
       refine wV (v_load one22 rfl (H2.at (by repeat constructor) rfl)) ?_
       refine wO g47 ?_
       refine wV (v_len Try.underlying22 rfl) ?_
       refine wO g47 ?_
       refine wV (v_eql rfl rfl) ?_
       refine wV (v_pick_t rfl g47 rfl) ?_
       refine wA ?_
       refine wl_nil ?_
       refine wc_ret ?_
       first
         | (have q_ := c0p
            first
              | exact ⟨_, res1 rfl rfl, congrArg Value.bool (dec_eq ⟨fun hd => (fit0 c0p).2 ⟨g17p, g22p, by omega, by (have h_ := of_decide_eq_true hd; omega)⟩, fun hh => decide_eq_true (by have h_ := (fit0 c0p).1 hh; omega)⟩), H2.pm (Pm.nil _)⟩
              | exact ⟨_, res1 rfl rfl, congrArg Value.bool (dec_f fun hh => by (have h_ := (fit0 c0p).1 hh; first | omega | exact g17p h_.1 | exact g22p h_.2.1)).symm, H2.pm (Pm.nil _)⟩)
         | (have q_ := c1p
            first
              | exact ⟨_, res1 rfl rfl, congrArg Value.bool (dec_eq ⟨fun hd => (fit1 c1p).2 ⟨g37p, by omega, g47p, by (have h_ := of_decide_eq_true hd; omega)⟩, fun hh => decide_eq_true (by have h_ := (fit1 c1p).1 hh; omega)⟩), H2.pm (Pm.nil _)⟩
              | exact ⟨_, res1 rfl rfl, congrArg Value.bool (dec_f fun hh => by (have h_ := (fit1 c1p).1 hh; first | omega | exact g37p h_.1 | exact g47p h_.2.2.1)).symm, H2.pm (Pm.nil _)⟩)
         | (have q_ := c2p
            first
              | exact ⟨_, res1 rfl rfl, congrArg Value.bool (dec_eq ⟨fun hd => (fit2 c2p).2 ⟨g57p, by omega, by (have h_ := of_decide_eq_true hd; omega)⟩, fun hh => decide_eq_true (by have h_ := (fit2 c2p).1 hh; omega)⟩), H2.pm (Pm.nil _)⟩
              | exact ⟨_, res1 rfl rfl, congrArg Value.bool (dec_f fun hh => by (have h_ := (fit2 c2p).1 hh; first | omega | exact g57p h_.1 | exact g57p h_.1)).symm, H2.pm (Pm.nil _)⟩)
         | exact ⟨_, res1 rfl rfl, congrArg Value.bool (dec_f (fitx c0p c1p c2p c3p)).symm, H2.pm (Pm.nil _)⟩
         | (have q_ := c6p
            exact ⟨_, res1 rfl rfl, congrArg Value.bool (dec_f fun hh => of_ndec (of_n_t c6) ((fitNs_iff _ _).1 ((fit3_f c3p hp).1 hh).2.2.2 i hin)).symm, H2.pm (Pm.nil _)⟩)
         | (have q_ := c5p
            exact ⟨_, res1 rfl rfl, congrArg Value.bool (dec_t ((fit3_f c3p hp).2 ⟨g93p, by omega, by omega, (fitNs_iff _ _).2 fun j hj => ha j (by omega)⟩)).symm, H2.pm (Pm.nil _)⟩)
         | (exact ⟨_, res1 rfl rfl, congrArg Value.bool (dec_f fun hh => by
              obtain ⟨p, hp, h1_, h2_, h3_, _⟩ := (fit3 c3p).1 hh
              first
                | (have h_ := hq4.symm.trans g82p; rw [hp] at h_; cases h_; done)
                | (rw [ofF_get hp] at g93p; exact g93p h1_)
                | omega
                | (have h_ := hq5 p hp; rw [h_] at c4p; omega)).symm, H2.pm (Pm.nil _)⟩)
      ·have g47p := of_decide_eq_false g47
       refine wF g47 ?_
       refine wF g47 ?_
       refine wF g47 ?_
       refine wV (v_pick_f rfl g47 rfl) ?_
       refine wA ?_
       refine wl_nil ?_
       refine wc_ret ?_
       first
         | (have q_ := c0p
            first
              | exact ⟨_, res1 rfl rfl, congrArg Value.bool (dec_eq ⟨fun hd => (fit0 c0p).2 ⟨g17p, g22p, by omega, by (have h_ := of_decide_eq_true hd; omega)⟩, fun hh => decide_eq_true (by have h_ := (fit0 c0p).1 hh; omega)⟩), H2.pm (Pm.nil _)⟩
              | exact ⟨_, res1 rfl rfl, congrArg Value.bool (dec_f fun hh => by (have h_ := (fit0 c0p).1 hh; first | omega | exact g17p h_.1 | exact g22p h_.2.1)).symm, H2.pm (Pm.nil _)⟩)
         | (have q_ := c1p
            first
              | exact ⟨_, res1 rfl rfl, congrArg Value.bool (dec_eq ⟨fun hd => (fit1 c1p).2 ⟨g37p, by omega, g47p, by (have h_ := of_decide_eq_true hd; omega)⟩, fun hh => decide_eq_true (by have h_ := (fit1 c1p).1 hh; omega)⟩), H2.pm (Pm.nil _)⟩
              | exact ⟨_, res1 rfl rfl, congrArg Value.bool (dec_f fun hh => by (have h_ := (fit1 c1p).1 hh; first | omega | exact g37p h_.1 | exact g47p h_.2.2.1)).symm, H2.pm (Pm.nil _)⟩)
         | (have q_ := c2p
            first
              | exact ⟨_, res1 rfl rfl, congrArg Value.bool (dec_eq ⟨fun hd => (fit2 c2p).2 ⟨g57p, by omega, by (have h_ := of_decide_eq_true hd; omega)⟩, fun hh => decide_eq_true (by have h_ := (fit2 c2p).1 hh; omega)⟩), H2.pm (Pm.nil _)⟩
              | exact ⟨_, res1 rfl rfl, congrArg Value.bool (dec_f fun hh => by (have h_ := (fit2 c2p).1 hh; first | omega | exact g57p h_.1 | exact g57p h_.1)).symm, H2.pm (Pm.nil _)⟩)
         | exact ⟨_, res1 rfl rfl, congrArg Value.bool (dec_f (fitx c0p c1p c2p c3p)).symm, H2.pm (Pm.nil _)⟩
         | (have q_ := c6p
            exact ⟨_, res1 rfl rfl, congrArg Value.bool (dec_f fun hh => of_ndec (of_n_t c6) ((fitNs_iff _ _).1 ((fit3_f c3p hp).1 hh).2.2.2 i hin)).symm, H2.pm (Pm.nil _)⟩)
         | (have q_ := c5p
            exact ⟨_, res1 rfl rfl, congrArg Value.bool (dec_t ((fit3_f c3p hp).2 ⟨g93p, by omega, by omega, (fitNs_iff _ _).2 fun j hj => ha j (by omega)⟩)).symm, H2.pm (Pm.nil _)⟩)
         | (exact ⟨_, res1 rfl rfl, congrArg Value.bool (dec_f fun hh => by
              obtain ⟨p, hp, h1_, h2_, h3_, _⟩ := (fit3 c3p).1 hh
              first
                | (have h_ := hq4.symm.trans g82p; rw [hp] at h_; cases h_; done)
                | (rw [ofF_get hp] at g93p; exact g93p h1_)
                | omega
                | (have h_ := hq5 p hp; rw [h_] at c4p; omega)).symm, H2.pm (Pm.nil _)⟩)
     ·have g42p := of_decide_eq_false g42
      refine wF g42 ?_
      refine wF g42 ?_
      refine wV (v_pick_f rfl g42 rfl) ?_
      refine wM ?_
      refine wF rfl ?_
      refine wF rfl ?_
      refine wF rfl ?_
      refine wF rfl ?_
      refine wV (v_pick_f rfl rfl rfl) ?_
      refine wA ?_
      refine wl_nil ?_
      refine wc_ret ?_
      first
        | (have q_ := c0p
           first
             | exact ⟨_, res1 rfl rfl, congrArg Value.bool (dec_eq ⟨fun hd => (fit0 c0p).2 ⟨g17p, g22p, by omega, by (have h_ := of_decide_eq_true hd; omega)⟩, fun hh => decide_eq_true (by have h_ := (fit0 c0p).1 hh; omega)⟩), H2.pm (Pm.nil _)⟩
             | exact ⟨_, res1 rfl rfl, congrArg Value.bool (dec_f fun hh => by (have h_ := (fit0 c0p).1 hh; first | omega | exact g17p h_.1 | exact g22p h_.2.1)).symm, H2.pm (Pm.nil _)⟩)
        | (have q_ := c1p
           first
             | exact ⟨_, res1 rfl rfl, congrArg Value.bool (dec_eq ⟨fun hd => (fit1 c1p).2 ⟨g37p, by omega, g47p, by (have h_ := of_decide_eq_true hd; omega)⟩, fun hh => decide_eq_true (by have h_ := (fit1 c1p).1 hh; omega)⟩), H2.pm (Pm.nil _)⟩
             | exact ⟨_, res1 rfl rfl, congrArg Value.bool (dec_f fun hh => by (have h_ := (fit1 c1p).1 hh; first | omega | exact g37p h_.1 | exact g47p h_.2.2.1)).symm, H2.pm (Pm.nil _)⟩)
        | (have q_ := c2p
           first
             | exact ⟨_, res1 rfl rfl, congrArg Value.bool (dec_eq ⟨fun hd => (fit2 c2p).2 ⟨g57p, by omega, by (have h_ := of_decide_eq_true hd; omega)⟩, fun hh => decide_eq_true (by have h_ := (fit2 c2p).1 hh; omega)⟩), H2.pm (Pm.nil _)⟩
             | exact ⟨_, res1 rfl rfl, congrArg Value.bool (dec_f fun hh => by (have h_ := (fit2 c2p).1 hh; first | omega | exact g57p h_.1 | exact g57p h_.1)).symm, H2.pm (Pm.nil _)⟩)
        | exact ⟨_, res1 rfl rfl, congrArg Value.bool (dec_f (fitx c0p c1p c2p c3p)).symm, H2.pm (Pm.nil _)⟩
        | (have q_ := c6p
           exact ⟨_, res1 rfl rfl, congrArg Value.bool (dec_f fun hh => of_ndec (of_n_t c6) ((fitNs_iff _ _).1 ((fit3_f c3p hp).1 hh).2.2.2 i hin)).symm, H2.pm (Pm.nil _)⟩)
        | (have q_ := c5p
           exact ⟨_, res1 rfl rfl, congrArg Value.bool (dec_t ((fit3_f c3p hp).2 ⟨g93p, by omega, by omega, (fitNs_iff _ _).2 fun j hj => ha j (by omega)⟩)).symm, H2.pm (Pm.nil _)⟩)
        | (exact ⟨_, res1 rfl rfl, congrArg Value.bool (dec_f fun hh => by
             obtain ⟨p, hp, h1_, h2_, h3_, _⟩ := (fit3 c3p).1 hh
             first
               | (have h_ := hq4.symm.trans g82p; rw [hp] at h_; cases h_; done)
               | (rw [ofF_get hp] at g93p; exact g93p h1_)
               | omega
               | (have h_ := hq5 p hp; rw [h_] at c4p; omega)).symm, H2.pm (Pm.nil _)⟩)
    ·have g37p := of_decide_eq_false g37
     refine wF g37 ?_
     refine wF g37 ?_
     refine wV (v_pick_f rfl g37 rfl) ?_
     refine wM ?_
     refine wF rfl ?_
     refine wF rfl ?_
     refine wF rfl ?_
     refine wV (v_pick_f rfl rfl rfl) ?_
     refine wM ?_
     refine wF rfl ?_
     refine wF rfl ?_
     refine wF rfl ?_
     refine wF rfl ?_
     refine wV (v_pick_f rfl rfl rfl) ?_
     refine wA ?_
     refine wl_nil ?_
     refine wc_ret ?_
     first
       | (have q_ := c0p
          first
            | exact ⟨_, res1 rfl rfl, congrArg Value.bool (dec_eq ⟨fun hd => (fit0 c0p).2 ⟨g17p, g22p, by omega, by (have h_ := of_decide_eq_true hd; omega)⟩, fun hh => decide_eq_true (by have h_ := (fit0 c0p).1 hh; omega)⟩), H2.pm (Pm.nil _)⟩
            | exact ⟨_, res1 rfl rfl, congrArg Value.bool (dec_f fun hh => by (have h_ := (fit0 c0p).1 hh; first | omega | exact g17p h_.1 | exact g22p h_.2.1)).symm, H2.pm (Pm.nil _)⟩)
       | (have q_ := c1p
          first
            | exact ⟨_, res1 rfl rfl, congrArg Value.bool (dec_eq ⟨fun hd => (fit1 c1p).2 ⟨g37p, by omega, g47p, by (have h_ := of_decide_eq_true hd; omega)⟩, fun hh => decide_eq_true (by have h_ := (fit1 c1p).1 hh; omega)⟩), H2.pm (Pm.nil _)⟩
            | exact ⟨_, res1 rfl rfl, congrArg Value.bool (dec_f fun hh => by (have h_ := (fit1 c1p).1 hh; first | omega | exact g37p h_.1 | exact g47p h_.2.2.1)).symm, H2.pm (Pm.nil _)⟩)
       | (have q_ := c2p
          first
            | exact ⟨_, res1 rfl rfl, congrArg Value.bool (dec_eq ⟨fun hd => (fit2 c2p).2 ⟨g57p, by omega, by (have h_ := of_decide_eq_true hd; omega)⟩, fun hh => decide_eq_true (by have h_ := (fit2 c2p).1 hh; omega)⟩), H2.pm (Pm.nil _)⟩
            | exact ⟨_, res1 rfl rfl, congrArg Value.bool (dec_f fun hh => by (have h_ := (fit2 c2p).1 hh; first | omega | exact g57p h_.1 | exact g57p h_.1)).symm, H2.pm (Pm.nil _)⟩)
       | exact ⟨_, res1 rfl rfl, congrArg Value.bool (dec_f (fitx c0p c1p c2p c3p)).symm, H2.pm (Pm.nil _)⟩
       | (have q_ := c6p
          exact ⟨_, res1 rfl rfl, congrArg Value.bool (dec_f fun hh => of_ndec (of_n_t c6) ((fitNs_iff _ _).1 ((fit3_f c3p hp).1 hh).2.2.2 i hin)).symm, H2.pm (Pm.nil _)⟩)
       | (have q_ := c5p
          exact ⟨_, res1 rfl rfl, congrArg Value.bool (dec_t ((fit3_f c3p hp).2 ⟨g93p, by omega, by omega, (fitNs_iff _ _).2 fun j hj => ha j (by omega)⟩)).symm, H2.pm (Pm.nil _)⟩)
       | (exact ⟨_, res1 rfl rfl, congrArg Value.bool (dec_f fun hh => by
            obtain ⟨p, hp, h1_, h2_, h3_, _⟩ := (fit3 c3p).1 hh
            first
              | (have h_ := hq4.symm.trans g82p; rw [hp] at h_; cases h_; done)
              | (rw [ofF_get hp] at g93p; exact g93p h1_)
              | omega
              | (have h_ := hq5 p hp; rw [h_] at c4p; omega)).symm, H2.pm (Pm.nil _)⟩)
   ·have c1p := of_decide_eq_false c1
    refine wcR ?_
    refine wV (v_eql rfl rfl) ?_
    refine wA ?_
    refine wl_nil ?_
    refine wc_cond rfl (fun c2 => ?_) (fun c2 => ?_)
    ·have c2p := of_decide_eq_true c2
     refine wcR ?_
     refine wM ?_
     refine wV (v_eqls rfl rfl) ?_
     refine wM ?_
     refine wl_guard rfl rfl rfl (fun g57 => ?_) (fun g57 => ?_)
     ·have g57p := of_decide_eq_true g57
      refine wV (v_fb (o2 := 2) fa24_2 rfl rfl) ?_
      refine wO g57 ?_
      refine wV (v_load one3 rfl (H2.at (by repeat constructor) rfl)) ?_
      refine wO g57 ?_
      refine wV (v_eql rfl rfl) ?_
      refine wV (v_pick_t rfl g57 rfl) ?_
      refine wM ?_
      refine wl_guard rfl rfl rfl (fun g62 => ?_) (fun g62 => ?_)
      ·have g62p := of_decide_eq_true g62
       refine wV (v_fb (o2 := 3) fa24_3 rfl rfl) ?_
       refine wO g62 ?_
       refine wV (v_load one22 rfl (H2.at (by repeat constructor) rfl)) ?_
       refine wO g62 ?_
       refine wV (v_len Try.underlying22 rfl) ?_
       refine wO g62 ?_
       refine wV (v_eql rfl rfl) ?_
       refine wV (v_pick_t rfl g62 rfl) ?_
       refine wA ?_
       refine wl_nil ?_
       refine wc_ret ?_
       first
         | (have q_ := c0p
            first
              | exact ⟨_, res1 rfl rfl, congrArg Value.bool (dec_eq ⟨fun hd => (fit0 c0p).2 ⟨g17p, g22p, by omega, by (have h_ := of_decide_eq_true hd; omega)⟩, fun hh => decide_eq_true (by have h_ := (fit0 c0p).1 hh; omega)⟩), H2.pm (Pm.nil _)⟩
              | exact ⟨_, res1 rfl rfl, congrArg Value.bool (dec_f fun hh => by (have h_ := (fit0 c0p).1 hh; first | omega | exact g17p h_.1 | exact g22p h_.2.1)).symm, H2.pm (Pm.nil _)⟩)
         | (have q_ := c1p
            first
              | exact ⟨_, res1 rfl rfl, congrArg Value.bool (dec_eq ⟨fun hd => (fit1 c1p).2 ⟨g37p, by omega, g47p, by (have h_ := of_decide_eq_true hd; omega)⟩, fun hh => decide_eq_true (by have h_ := (fit1 c1p).1 hh; omega)⟩), H2.pm (Pm.nil _)⟩
              | exact ⟨_, res1 rfl rfl, congrArg Value.bool (dec_f fun hh => by (have h_ := (fit1 c1p).1 hh; first | omega | exact g37p h_.1 | exact g47p h_.2.2.1)).symm, H2.pm (Pm.nil _)⟩)
         | (have q_ := c2p
            first
              | exact ⟨_, res1 rfl rfl, congrArg Value.bool (dec_eq ⟨fun hd => (fit2 c2p).2 ⟨g57p, by omega, by (have h_ := of_decide_eq_true hd; omega)⟩, fun hh => decide_eq_true (by have h_ := (fit2 c2p).1 hh; omega)⟩), H2.pm (Pm.nil _)⟩
              | exact ⟨_, res1 rfl rfl, congrArg Value.bool (dec_f fun hh => by (have h_ := (fit2 c2p).1 hh; first | omega | exact g57p h_.1 | exact g57p h_.1)).symm, H2.pm (Pm.nil _)⟩)
         | exact ⟨_, res1 rfl rfl, congrArg Value.bool (dec_f (fitx c0p c1p c2p c3p)).symm, H2.pm (Pm.nil _)⟩
         | (have q_ := c6p
            exact ⟨_, res1 rfl rfl, congrArg Value.bool (dec_f fun hh => of_ndec (of_n_t c6) ((fitNs_iff _ _).1 ((fit3_f c3p hp).1 hh).2.2.2 i hin)).symm, H2.pm (Pm.nil _)⟩)
         | (have q_ := c5p
            exact ⟨_, res1 rfl rfl, congrArg Value.bool (dec_t ((fit3_f c3p hp).2 ⟨g93p, by omega, by omega, (fitNs_iff _ _).2 fun j hj => ha j (by omega)⟩)).symm, H2.pm (Pm.nil _)⟩)
         | (exact ⟨_, res1 rfl rfl, congrArg Value.bool (dec_f fun hh => by
              obtain ⟨p, hp, h1_, h2_, h3_, _⟩ := (fit3 c3p).1 hh
              first
                | (have h_ := hq4.symm.trans g82p; rw [hp] at h_; cases h_; done)
                | (rw [ofF_get hp] at g93p; exact g93p h1_)
                | omega
                | (have h_ := hq5 p hp; rw [h_] at c4p; omega)).symm, H2.pm (Pm.nil _)⟩)
      ·have g62p := of_decide_eq_false g62
       refine wF g62 ?_
       refine wF g62 ?_
       refine wF g62 ?_
       refine wV (v_pick_f rfl g62 rfl) ?_
       refine wA ?_
       refine wl_nil ?_
       refine wc_ret ?_
       first
         | (have q_ := c0p
            first
              | exact ⟨_, res1 rfl rfl, congrArg Value.bool (dec_eq ⟨fun hd => (fit0 c0p).2 ⟨g17p, g22p, by omega, by (have h_ := of_decide_eq_true hd; omega)⟩, fun hh => decide_eq_true (by have h_ := (fit0 c0p).1 hh; omega)⟩), H2.pm (Pm.nil _)⟩
              | exact ⟨_, res1 rfl rfl, congrArg Value.bool (dec_f fun hh => by (have h_ := (fit0 c0p).1 hh; first | omega | exact g17p h_.1 | exact g22p h_.2.1)).symm, H2.pm (Pm.nil _)⟩)
         | (have q_ := c1p
            first
              | exact ⟨_, res1 rfl rfl, congrArg Value.bool (dec_eq ⟨fun hd => (fit1 c1p).2 ⟨g37p, by omega, g47p, by (have h_ := of_decide_eq_true hd; omega)⟩, fun hh => decide_eq_true (by have h_ := (fit1 c1p).1 hh; omega)⟩), H2.pm (Pm.nil _)⟩
              | exact ⟨_, res1 rfl rfl, congrArg Value.bool (dec_f fun hh => by (have h_ := (fit1 c1p).1 hh; first | omega | exact g37p h_.1 | exact g47p h_.2.2.1)).symm, H2.pm (Pm.nil _)⟩)
         | (have q_ := c2p
            first
              | exact ⟨_, res1 rfl rfl, congrArg Value.bool (dec_eq ⟨fun hd => (fit2 c2p).2 ⟨g57p, by omega, by (have h_ := of_decide_eq_true hd; omega)⟩, fun hh => decide_eq_true (by have h_ := (fit2 c2p).1 hh; omega)⟩), H2.pm (Pm.nil _)⟩
              | exact ⟨_, res1 rfl rfl, congrArg Value.bool (dec_f fun hh => by (have h_ := (fit2 c2p).1 hh; first | omega | exact g57p h_.1 | exact g57p h_.1)).symm, H2.pm (Pm.nil _)⟩)
         | exact ⟨_, res1 rfl rfl, congrArg Value.bool (dec_f (fitx c0p c1p c2p c3p)).symm, H2.pm (Pm.nil _)⟩
         | (have q_ := c6p
            exact ⟨_, res1 rfl rfl, congrArg Value.bool (dec_f fun hh => of_ndec (of_n_t c6) ((fitNs_iff _ _).1 ((fit3_f c3p hp).1 hh).2.2.2 i hin)).symm, H2.pm (Pm.nil _)⟩)
         | (have q_ := c5p
            exact ⟨_, res1 rfl rfl, congrArg Value.bool (dec_t ((fit3_f c3p hp).2 ⟨g93p, by omega, by omega, (fitNs_iff _ _).2 fun j hj => ha j (by omega)⟩)).symm, H2.pm (Pm.nil _)⟩)
         | (exact ⟨_, res1 rfl rfl, congrArg Value.bool (dec_f fun hh => by
              obtain ⟨p, hp, h1_, h2_, h3_, _⟩ := (fit3 c3p).1 hh
              first
                | (have h_ := hq4.symm.trans g82p; rw [hp] at h_; cases h_; done)
                | (rw [ofF_get hp] at g93p; exact g93p h1_)
                | omega
                | (have h_ := hq5 p hp; rw [h_] at c4p; omega)).symm, H2.pm (Pm.nil _)⟩)
     ·have g57p := of_decide_eq_false g57
      refine wF g57 ?_
      refine wF g57 ?_
      refine wV (v_pick_f rfl g57 rfl) ?_
      refine wM ?_
      refine wF rfl ?_
      refine wF rfl ?_
      refine wF rfl ?_
      refine wF rfl ?_
      refine wV (v_pick_f rfl rfl rfl) ?_
      refine wA ?_
      refine wl_nil ?_
      refine wc_ret ?_
      first
        | (have q_ := c0p
           first
             | exact ⟨_, res1 rfl rfl, congrArg Value.bool (dec_eq ⟨fun hd => (fit0 c0p).2 ⟨g17p, g22p, by omega, by (have h_ := of_decide_eq_true hd; omega)⟩, fun hh => decide_eq_true (by have h_ := (fit0 c0p).1 hh; omega)⟩), H2.pm (Pm.nil _)⟩
             | exact ⟨_, res1 rfl rfl, congrArg Value.bool (dec_f fun hh => by (have h_ := (fit0 c0p).1 hh; first | omega | exact g17p h_.1 | exact g22p h_.2.1)).symm, H2.pm (Pm.nil _)⟩)
        | (have q_ := c1p
           first
             | exact ⟨_, res1 rfl rfl, congrArg Value.bool (dec_eq ⟨fun hd => (fit1 c1p).2 ⟨g37p, by omega, g47p, by (have h_ := of_decide_eq_true hd; omega)⟩, fun hh => decide_eq_true (by have h_ := (fit1 c1p).1 hh; omega)⟩), H2.pm (Pm.nil _)⟩
             | exact ⟨_, res1 rfl rfl, congrArg Value.bool (dec_f fun hh => by (have h_ := (fit1 c1p).1 hh; first | omega | exact g37p h_.1 | exact g47p h_.2.2.1)).symm, H2.pm (Pm.nil _)⟩)
        | (have q_ := c2p
           first
             | exact ⟨_, res1 rfl rfl, congrArg Value.bool (dec_eq ⟨fun hd => (fit2 c2p).2 ⟨g57p, by omega, by (have h_ := of_decide_eq_true hd; omega)⟩, fun hh => decide_eq_true (by have h_ := (fit2 c2p).1 hh; omega)⟩), H2.pm (Pm.nil _)⟩
             | exact ⟨_, res1 rfl rfl, congrArg Value.bool (dec_f fun hh => by (have h_ := (fit2 c2p).1 hh; first | omega | exact g57p h_.1 | exact g57p h_.1)).symm, H2.pm (Pm.nil _)⟩)
        | exact ⟨_, res1 rfl rfl, congrArg Value.bool (dec_f (fitx c0p c1p c2p c3p)).symm, H2.pm (Pm.nil _)⟩
        | (have q_ := c6p
           exact ⟨_, res1 rfl rfl, congrArg Value.bool (dec_f fun hh => of_ndec (of_n_t c6) ((fitNs_iff _ _).1 ((fit3_f c3p hp).1 hh).2.2.2 i hin)).symm, H2.pm (Pm.nil _)⟩)
        | (have q_ := c5p
           exact ⟨_, res1 rfl rfl, congrArg Value.bool (dec_t ((fit3_f c3p hp).2 ⟨g93p, by omega, by omega, (fitNs_iff _ _).2 fun j hj => ha j (by omega)⟩)).symm, H2.pm (Pm.nil _)⟩)
        | (exact ⟨_, res1 rfl rfl, congrArg Value.bool (dec_f fun hh => by
             obtain ⟨p, hp, h1_, h2_, h3_, _⟩ := (fit3 c3p).1 hh
             first
               | (have h_ := hq4.symm.trans g82p; rw [hp] at h_; cases h_; done)
               | (rw [ofF_get hp] at g93p; exact g93p h1_)
               | omega
               | (have h_ := hq5 p hp; rw [h_] at c4p; omega)).symm, H2.pm (Pm.nil _)⟩)
    ·have c2p := of_decide_eq_false c2
     refine wcR ?_
     refine wV (v_eql rfl rfl) ?_
     refine wA ?_
     refine wl_nil ?_
     refine wc_cond rfl (fun c3 => ?_) (fun c3 => ?_)
     ·have c3p := of_decide_eq_true c3
      refine wc_skip ?_
      refine wc_seq ?_
      refine wc_tree [0, 1, 2, 3, 4, 5, 6, 7, 8, 9] (fun W => Holds w [Blk b4 24 [.int .i64 t.x.kind, .string t.x.name, .int .i64 t.x.tok, .slice B t.kids.length k]] W) mixed ?_
      have Hd := H2.drew
      have HSd : Holds w [Blk b4 24 [.int .i64 t.x.kind, .string t.x.name, .int .i64 t.x.tok, .slice B t.kids.length k]] _ := Hd.pm (by repeat constructor)
      refine wjV (k := 0) rfl HSd (fun W HW => v_move rfl) ?_
      refine wjV (k := 1) rfl HSd (fun W HW => v_nil rfl) ?_
      refine wjV (k := 2) rfl HSd (fun W HW => v_fb (o2 := 1) fa126_1 rfl rfl) ?_
      refine wjV (k := 3) rfl HSd (fun W HW => v_load one123 rfl (HW.cell (hdc 1 _ rfl))) ?_
      refine wjV (k := 4) rfl HSd (fun W HW => v_fb (o2 := 1) fa24_1 rfl rfl) ?_
      refine wjV (k := 5) rfl HSd (fun W HW => v_load one9 rfl (HW.at (by repeat constructor) rfl)) ?_
      obtain ⟨q9, A9, k9, hq1, hq2, hq3, hq4, hq5⟩ := hC.look t.x.name
      refine wjV (k := 6) rfl HSd (fun W HW => v_lookRok (hM1 _ HW.old) Try.underlying123 zv80 (show KS.ok t.x.name from Nat.le_trans hsz (by decide)) rfl rfl hq1) ?_
      refine wjV (k := 7) rfl HSd (fun W HW => v_move rfl) ?_
      refine wjV (k := 8) rfl HSd (fun W HW => v_extract rfl rfl) ?_
      refine wjV (k := 9) rfl HSd (fun W HW => v_extract rfl rfl) ?_
      refine wj_t (k := 10) rfl (by kernel_rfl) ?_
      refine wl_alloc (cs := [.string ⟨#[]⟩, .slice none 0 0]) Hd rfl zv80 rfl ?_
      intro b7 w3 hb7 H4
      have HS5 : Holds w [Blk b4 24 [.int .i64 t.x.kind, .string t.x.name, .int .i64 t.x.tok, .slice B t.kids.length k]] _ := H4.pm (by repeat constructor)
      refine wl_nil (tn ⟨fun _ => HS5, ?_⟩)
      refine wj_t (k := 11) rfl (by kernel_rfl) ?_
      refine wl_store (vs := [_, _]) H4 (by repeat constructor) sz80 rfl rfl rfl rfl rfl (by (repeat constructor)) ?_
      intro w6 H7 hw6
      have HS8 : Holds w [Blk b4 24 [.int .i64 t.x.kind, .string t.x.name, .int .i64 t.x.tok, .slice B t.kids.length k]] _ := H7.pm (by repeat constructor)
      refine wl_nil (tn ⟨fun _ => HS8, ?_⟩)
      refine wj_t (k := 12) rfl (by kernel_rfl) ?_
      refine wA ?_
      refine wl_nil (tn ⟨fun hlt => absurd hlt (by rw [show allH _ _ _ = true by kernel_rfl]; simp), ?_⟩)
      refine wj_done (by kernel_rfl) ?_
      refine wc_seq ?_
      refine wc_seq ?_
      refine wc_still mixed (by kernel_rfl) ?_
      have Hd := H7.drew
      refine ws_v rfl rfl rfl (v_move rfl) ?_
      refine ws_v rfl rfl rfl (v_not rfl) ?_
      refine ws_v rfl rfl rfl (v_move rfl) ?_
      refine ws_guard rfl rfl rfl (fun g82 => ?_) (fun g82 => ?_)
      ·have g82p := of_n_f g82
       refine ws_v rfl rfl rfl (v_move rfl) ?_
       refine ws_on' rfl rfl g82 ?_
       refine ws_v rfl rfl rfl (v_nil rfl) ?_
       refine ws_on' rfl rfl g82 ?_
       refine ws_v rfl rfl rfl (v_fb (o2 := 2) fa126_2 rfl rfl) ?_
       refine ws_on' rfl rfl g82 ?_
       refine ws_v rfl rfl rfl (v_load one124 rfl (Hd.cell (hdc 2 _ rfl))) ?_
       refine ws_on' rfl rfl g82 ?_
       refine ws_v rfl rfl rfl (v_fb (o2 := 1) fa24_1 rfl rfl) ?_
       refine ws_on' rfl rfl g82 ?_
       refine ws_v rfl rfl rfl (v_load one9 rfl (Hd.at (by repeat constructor) rfl)) ?_
       refine ws_on' rfl rfl g82 ?_
       refine ws_v rfl rfl rfl (v_lookR (hM2 _ Hd.old) Try.underlying124 zv9 (show KS.ok t.x.name from Nat.le_trans hsz (by decide)) rfl rfl (ofF_look _ _)) ?_
       refine ws_on' rfl rfl g82 ?_
       refine ws_v rfl rfl rfl (v_move rfl) ?_
       refine ws_on' rfl rfl g82 ?_
       refine ws_v rfl rfl rfl (v_neqs rfl rfl) ?_
       refine ws_v rfl rfl rfl (v_pick_f rfl g82 rfl) ?_
       refine ws_v rfl rfl rfl (v_move rfl) ?_
       refine ws_guard rfl rfl rfl (fun g93 => ?_) (fun g93 => ?_)
       ·have g93p := of_nd_f g93
        refine ws_v rfl rfl rfl (v_fb (o2 := 2) fa24_2 rfl rfl) ?_
        refine ws_on' rfl rfl g93 ?_
        refine ws_v rfl rfl rfl (v_load one3 rfl (Hd.at (by repeat constructor) rfl)) ?_
        refine ws_on' rfl rfl g93 ?_
        refine ws_v rfl rfl rfl (v_neq rfl rfl) ?_
        refine ws_v rfl rfl rfl (v_pick_f rfl g93 rfl) ?_
        refine ws_v rfl rfl rfl (v_move rfl) ?_
        refine ws_guard rfl rfl rfl (fun g98 => ?_) (fun g98 => ?_)
        ·have g98p := of_nd_f g98
         refine ws_v rfl rfl rfl (v_fb (o2 := 1) fa80_1 rfl rfl) ?_
         refine ws_on' rfl rfl g98 ?_
         refine ws_v rfl rfl rfl (v_load one40 rfl (Hd.at (by repeat constructor) rfl)) ?_
         refine ws_on' rfl rfl g98 ?_
         refine ws_v rfl rfl rfl (v_len Try.underlying40 rfl) ?_
         refine ws_on' rfl rfl g98 ?_
         refine ws_v rfl rfl rfl (v_fb (o2 := 3) fa24_3 rfl rfl) ?_
         refine ws_on' rfl rfl g98 ?_
         refine ws_v rfl rfl rfl (v_load one22 rfl (Hd.at (by repeat constructor) rfl)) ?_
         refine ws_on' rfl rfl g98 ?_
         refine ws_v rfl rfl rfl (v_len Try.underlying22 rfl) ?_
         refine ws_on' rfl rfl g98 ?_
         refine ws_v rfl rfl rfl (v_neq rfl rfl) ?_
         refine ws_v rfl rfl rfl (v_pick_f rfl g98 rfl) ?_
         refine ws_nil ?_
         refine wc_cond rfl (fun c4 => ?_) (fun c4 => ?_)
         ·have c4p := of_nd_t c4
          refine wcR ?_
          refine wA ?_
          refine wl_nil ?_
          refine wc_ret ?_
          first
            | (have q_ := c0p
               first
                 | exact ⟨_, res1 rfl rfl, congrArg Value.bool (dec_eq ⟨fun hd => (fit0 c0p).2 ⟨g17p, g22p, by omega, by (have h_ := of_decide_eq_true hd; omega)⟩, fun hh => decide_eq_true (by have h_ := (fit0 c0p).1 hh; omega)⟩), Hd.pm (Pm.nil _)⟩
                 | exact ⟨_, res1 rfl rfl, congrArg Value.bool (dec_f fun hh => by (have h_ := (fit0 c0p).1 hh; first | omega | exact g17p h_.1 | exact g22p h_.2.1)).symm, Hd.pm (Pm.nil _)⟩)
            | (have q_ := c1p
               first
                 | exact ⟨_, res1 rfl rfl, congrArg Value.bool (dec_eq ⟨fun hd => (fit1 c1p).2 ⟨g37p, by omega, g47p, by (have h_ := of_decide_eq_true hd; omega)⟩, fun hh => decide_eq_true (by have h_ := (fit1 c1p).1 hh; omega)⟩), Hd.pm (Pm.nil _)⟩
                 | exact ⟨_, res1 rfl rfl, congrArg Value.bool (dec_f fun hh => by (have h_ := (fit1 c1p).1 hh; first | omega | exact g37p h_.1 | exact g47p h_.2.2.1)).symm, Hd.pm (Pm.nil _)⟩)
            | (have q_ := c2p
               first
                 | exact ⟨_, res1 rfl rfl, congrArg Value.bool (dec_eq ⟨fun hd => (fit2 c2p).2 ⟨g57p, by omega, by (have h_ := of_decide_eq_true hd; omega)⟩, fun hh => decide_eq_true (by have h_ := (fit2 c2p).1 hh; omega)⟩), Hd.pm (Pm.nil _)⟩
                 | exact ⟨_, res1 rfl rfl, congrArg Value.bool (dec_f fun hh => by (have h_ := (fit2 c2p).1 hh; first | omega | exact g57p h_.1 | exact g57p h_.1)).symm, Hd.pm (Pm.nil _)⟩)
            | exact ⟨_, res1 rfl rfl, congrArg Value.bool (dec_f (fitx c0p c1p c2p c3p)).symm, Hd.pm (Pm.nil _)⟩
            | (have q_ := c6p
               exact ⟨_, res1 rfl rfl, congrArg Value.bool (dec_f fun hh => of_ndec (of_n_t c6) ((fitNs_iff _ _).1 ((fit3_f c3p hp).1 hh).2.2.2 i hin)).symm, Hd.pm (Pm.nil _)⟩)
            | (have q_ := c5p
               exact ⟨_, res1 rfl rfl, congrArg Value.bool (dec_t ((fit3_f c3p hp).2 ⟨g93p, by omega, by omega, (fitNs_iff _ _).2 fun j hj => ha j (by omega)⟩)).symm, Hd.pm (Pm.nil _)⟩)
            | (exact ⟨_, res1 rfl rfl, congrArg Value.bool (dec_f fun hh => by
                 obtain ⟨p, hp, h1_, h2_, h3_, _⟩ := (fit3 c3p).1 hh
                 first
                   | (have h_ := hq4.symm.trans g82p; rw [hp] at h_; cases h_; done)
                   | (rw [ofF_get hp] at g93p; exact g93p h1_)
                   | omega
                   | (have h_ := hq5 p hp; rw [h_] at c4p; omega)).symm, Hd.pm (Pm.nil _)⟩)
         ·have c4p := of_nd_f c4
          have hfs : (fnd P t.x.name).isSome = true := hq4.symm.trans g82p
          obtain ⟨p, hp⟩ := Option.isSome_iff_exists.1 hfs
          obtain rfl := hq5 p hp
          rw [ofF_get hp] at g93p
          refine wc_skip ?_
          refine wc_seq ?_
          refine wcR ?_
          refine wV (v_fb (o2 := 3) fa24_3 rfl rfl) ?_
          refine wV (v_load one22 rfl (Hd.at (by repeat constructor) rfl)) ?_
          refine wV (v_len Try.underlying22 rfl) ?_
          refine wM ?_
          refine wl_nil ?_
          refine wc_block ?_
          refine wc_loop (σ := Nat) (fun s => [(0, .pointer (some ⟨bd, 0, none⟩)), (4, .pointer (some ⟨b4, 0, none⟩)), (7, .pointer (some ⟨b7, 0, none⟩)), (108, .slice B t.kids.length k), (109, .int .i64 t.kids.length), (110, .int .i64 s)]) (fun s W => (s ≤ t.kids.length ∧ ∀ j, j < s → fitN P (t.kids.getD j nd0) (p.2.fields.getD j s0)) ∧ Holds w [Blk b7 80 [.string p.2.name, .slice A9 p.2.fields.length k9], Blk b4 24 [.int .i64 t.x.kind, .string t.x.name, .int .i64 t.x.tok, .slice B t.kids.length k]] W) (fun s => t.kids.length - s) 0 (sc rfl (sc rfl (sc rfl (sc rfl (sc rfl (sc rfl (sn _))))))) ⟨⟨Nat.zero_le _, upto_zero⟩, Hd.pm (by repeat constructor)⟩ ?_
          rintro i W0 ⟨⟨hi, ha⟩, H⟩
          refine wcR ?_
          refine wV (v_lss rfl rfl) ?_
          refine wl_nil ?_
          refine wc_seq ?_
          refine wc_cond rfl (fun c5 => ?_) (fun c5 => ?_)
          ·have c5p := of_decide_eq_true c5
           have hin : i < t.kids.length := by omega
           refine wc_skip ?_
           refine wc_seq ?_
           refine wc_block ?_
           refine wcR ?_
           refine wM ?_
           refine wV (v_idx Try.underlying22 sz24 hr.ad rfl rfl (by omega) (by omega)) ?_
           obtain ⟨B114_, k114_, hc114_, hl114_, hr114_⟩ := hr.atTr nd0 (i := i) (by omega)
           refine wV (v_loadN (cs := [.int .i64 (t.kids.getD i nd0).x.kind, .string (t.kids.getD i nd0).x.name, .int .i64 (t.kids.getD i nd0).x.tok, .slice B114_ (t.kids.getD i nd0).kids.length k114_]) agg24 rfl rfl (fun q_ u_ hu_ => H.cell (hc114_ q_ u_ hu_))) ?_
           refine wl_alloc (cs := [.int .i64 0, .string ⟨#[]⟩, .int .i64 0, .slice none 0 0]) H rfl zv24 rfl ?_
           intro b10 w11 hb10 H12
           refine wA ?_
           refine wl_store (vs := [_, _, _, _]) H12 (by repeat constructor) sz24 rfl rfl rfl rfl rfl (by (repeat constructor)) ?_
           intro w13 H14 hw13
           refine wl_nil ?_
           refine wc_seq ?_
           refine wc_tree [0, 1, 2, 3, 4, 5, 6, 8] (fun W => Holds w [Blk b10 24 [.int .i64 (t.kids.getD i nd0).x.kind, .string (t.kids.getD i nd0).x.name, .int .i64 (t.kids.getD i nd0).x.tok, .slice B114_ (t.kids.getD i nd0).kids.length k114_], Blk b7 80 [.string p.2.name, .slice A9 p.2.fields.length k9], Blk b4 24 [.int .i64 t.x.kind, .string t.x.name, .int .i64 t.x.tok, .slice B t.kids.length k]] W) mixed ?_
           have Hd := H14.drew
           have HSd : Holds w [Blk b10 24 [.int .i64 (t.kids.getD i nd0).x.kind, .string (t.kids.getD i nd0).x.name, .int .i64 (t.kids.getD i nd0).x.tok, .slice B114_ (t.kids.getD i nd0).kids.length k114_], Blk b7 80 [.string p.2.name, .slice A9 p.2.fields.length k9], Blk b4 24 [.int .i64 t.x.kind, .string t.x.name, .int .i64 t.x.tok, .slice B t.kids.length k]] _ := Hd.pm (by repeat constructor)
           refine wjV (k := 0) rfl HSd (fun W HW => v_move rfl) ?_
           refine wjV (k := 1) rfl HSd (fun W HW => v_loadN agg24 rfl rfl (HW.ats (by repeat constructor))) ?_
           refine wjV (k := 2) rfl HSd (fun W HW => v_fb (o2 := 1) fa80_1 rfl rfl) ?_
           refine wjV (k := 3) rfl HSd (fun W HW => v_load one40 rfl (HW.at (by repeat constructor) rfl)) ?_
           refine wjV (k := 4) rfl HSd (fun W HW => v_move rfl) ?_
           refine wjV (k := 5) rfl HSd (fun W HW => v_idx Try.underlying40 sz9 hq3.ad rfl rfl (by omega) (by omega)) ?_
           refine wjV (k := 6) rfl HSd (fun W HW => v_load one9 rfl (HW.cell (hq3.at1sN (i := i) (by omega)))) ?_
           refine wj_t (k := 7) rfl (by kernel_rfl) ?_
           refine wl_call en53 rfl rfl (ih _ (getD_mem (z := nd0) hin) _ _ _ bd b0 b1 b2 ns (p.2.fields.getD i s0) fC (hds.below Hd.old) (hr114_.below Hd.old) (Tr.Alls_at nd0 hin hks)) ?_
           rintro _ w15 ⟨rfl, Hc⟩
           have H16 := Hd.call0 Hc
           have HS17 : Holds w [Blk b10 24 [.int .i64 (t.kids.getD i nd0).x.kind, .string (t.kids.getD i nd0).x.name, .int .i64 (t.kids.getD i nd0).x.tok, .slice B114_ (t.kids.getD i nd0).kids.length k114_], Blk b7 80 [.string p.2.name, .slice A9 p.2.fields.length k9], Blk b4 24 [.int .i64 t.x.kind, .string t.x.name, .int .i64 t.x.tok, .slice B t.kids.length k]] _ := H16.pm (by repeat constructor)
           refine wl_nil (tn ⟨fun _ => HS17, ?_⟩)
           refine wjV (k := 8) rfl HS17 (fun W HW => v_not rfl) ?_
           refine wj_done (by kernel_rfl) ?_
           refine wc_cond rfl (fun c6 => ?_) (fun c6 => ?_)
           ·have c6p := of_n_t c6
            refine wcR ?_
            refine wA ?_
            refine wl_nil ?_
            refine wc_ret ?_
            first
              | (have q_ := c0p
                 first
                   | exact ⟨_, res1 rfl rfl, congrArg Value.bool (dec_eq ⟨fun hd => (fit0 c0p).2 ⟨g17p, g22p, by omega, by (have h_ := of_decide_eq_true hd; omega)⟩, fun hh => decide_eq_true (by have h_ := (fit0 c0p).1 hh; omega)⟩), H16.pm (Pm.nil _)⟩
                   | exact ⟨_, res1 rfl rfl, congrArg Value.bool (dec_f fun hh => by (have h_ := (fit0 c0p).1 hh; first | omega | exact g17p h_.1 | exact g22p h_.2.1)).symm, H16.pm (Pm.nil _)⟩)
              | (have q_ := c1p
                 first
                   | exact ⟨_, res1 rfl rfl, congrArg Value.bool (dec_eq ⟨fun hd => (fit1 c1p).2 ⟨g37p, by omega, g47p, by (have h_ := of_decide_eq_true hd; omega)⟩, fun hh => decide_eq_true (by have h_ := (fit1 c1p).1 hh; omega)⟩), H16.pm (Pm.nil _)⟩
                   | exact ⟨_, res1 rfl rfl, congrArg Value.bool (dec_f fun hh => by (have h_ := (fit1 c1p).1 hh; first | omega | exact g37p h_.1 | exact g47p h_.2.2.1)).symm, H16.pm (Pm.nil _)⟩)
              | (have q_ := c2p
                 first
                   | exact ⟨_, res1 rfl rfl, congrArg Value.bool (dec_eq ⟨fun hd => (fit2 c2p).2 ⟨g57p, by omega, by (have h_ := of_decide_eq_true hd; omega)⟩, fun hh => decide_eq_true (by have h_ := (fit2 c2p).1 hh; omega)⟩), H16.pm (Pm.nil _)⟩
                   | exact ⟨_, res1 rfl rfl, congrArg Value.bool (dec_f fun hh => by (have h_ := (fit2 c2p).1 hh; first | omega | exact g57p h_.1 | exact g57p h_.1)).symm, H16.pm (Pm.nil _)⟩)
              | exact ⟨_, res1 rfl rfl, congrArg Value.bool (dec_f (fitx c0p c1p c2p c3p)).symm, H16.pm (Pm.nil _)⟩
              | (have q_ := c6p
                 exact ⟨_, res1 rfl rfl, congrArg Value.bool (dec_f fun hh => of_ndec (of_n_t c6) ((fitNs_iff _ _).1 ((fit3_f c3p hp).1 hh).2.2.2 i hin)).symm, H16.pm (Pm.nil _)⟩)
              | (have q_ := c5p
                 exact ⟨_, res1 rfl rfl, congrArg Value.bool (dec_t ((fit3_f c3p hp).2 ⟨g93p, by omega, by omega, (fitNs_iff _ _).2 fun j hj => ha j (by omega)⟩)).symm, H16.pm (Pm.nil _)⟩)
              | (exact ⟨_, res1 rfl rfl, congrArg Value.bool (dec_f fun hh => by
                   obtain ⟨p, hp, h1_, h2_, h3_, _⟩ := (fit3 c3p).1 hh
                   first
                     | (have h_ := hq4.symm.trans g82p; rw [hp] at h_; cases h_; done)
                     | (rw [ofF_get hp] at g93p; exact g93p h1_)
                     | omega
                     | (have h_ := hq5 p hp; rw [h_] at c4p; omega)).symm, H16.pm (Pm.nil _)⟩)
           ·have c6p := of_n_f c6
            refine wc_skip ?_
            refine wc_region ?_
            refine wV (v_addi rfl rfl (by omega)) ?_
            refine wM ?_
            refine wl_nil ?_
            exact ⟨i + 1, (sc rfl (sc rfl (sc rfl (sc rfl (sc rfl (sc rfl (sn _))))))), ⟨⟨by omega, upto_succ ha (of_dec (of_n_f c6))⟩, H16.pm (by repeat constructor)⟩, by omega⟩
          ·have c5p := of_decide_eq_false c5
           refine wc_exit ?_
           refine wcR ?_
           refine wA ?_
           refine wl_nil ?_
           refine wc_ret ?_
           first
             | (have q_ := c0p
                first
                  | exact ⟨_, res1 rfl rfl, congrArg Value.bool (dec_eq ⟨fun hd => (fit0 c0p).2 ⟨g17p, g22p, by omega, by (have h_ := of_decide_eq_true hd; omega)⟩, fun hh => decide_eq_true (by have h_ := (fit0 c0p).1 hh; omega)⟩), H.pm (Pm.nil _)⟩
                  | exact ⟨_, res1 rfl rfl, congrArg Value.bool (dec_f fun hh => by (have h_ := (fit0 c0p).1 hh; first | omega | exact g17p h_.1 | exact g22p h_.2.1)).symm, H.pm (Pm.nil _)⟩)
             | (have q_ := c1p
                first
                  | exact ⟨_, res1 rfl rfl, congrArg Value.bool (dec_eq ⟨fun hd => (fit1 c1p).2 ⟨g37p, by omega, g47p, by (have h_ := of_decide_eq_true hd; omega)⟩, fun hh => decide_eq_true (by have h_ := (fit1 c1p).1 hh; omega)⟩), H.pm (Pm.nil _)⟩
                  | exact ⟨_, res1 rfl rfl, congrArg Value.bool (dec_f fun hh => by (have h_ := (fit1 c1p).1 hh; first | omega | exact g37p h_.1 | exact g47p h_.2.2.1)).symm, H.pm (Pm.nil _)⟩)
             | (have q_ := c2p
                first
                  | exact ⟨_, res1 rfl rfl, congrArg Value.bool (dec_eq ⟨fun hd => (fit2 c2p).2 ⟨g57p, by omega, by (have h_ := of_decide_eq_true hd; omega)⟩, fun hh => decide_eq_true (by have h_ := (fit2 c2p).1 hh; omega)⟩), H.pm (Pm.nil _)⟩
                  | exact ⟨_, res1 rfl rfl, congrArg Value.bool (dec_f fun hh => by (have h_ := (fit2 c2p).1 hh; first | omega | exact g57p h_.1 | exact g57p h_.1)).symm, H.pm (Pm.nil _)⟩)
             | exact ⟨_, res1 rfl rfl, congrArg Value.bool (dec_f (fitx c0p c1p c2p c3p)).symm, H.pm (Pm.nil _)⟩
             | (have q_ := c6p
                exact ⟨_, res1 rfl rfl, congrArg Value.bool (dec_f fun hh => of_ndec (of_n_t c6) ((fitNs_iff _ _).1 ((fit3_f c3p hp).1 hh).2.2.2 i hin)).symm, H.pm (Pm.nil _)⟩)
             | (have q_ := c5p
                exact ⟨_, res1 rfl rfl, congrArg Value.bool (dec_t ((fit3_f c3p hp).2 ⟨g93p, by omega, by omega, (fitNs_iff _ _).2 fun j hj => ha j (by omega)⟩)).symm, H.pm (Pm.nil _)⟩)
             | (exact ⟨_, res1 rfl rfl, congrArg Value.bool (dec_f fun hh => by
                  obtain ⟨p, hp, h1_, h2_, h3_, _⟩ := (fit3 c3p).1 hh
                  first
                    | (have h_ := hq4.symm.trans g82p; rw [hp] at h_; cases h_; done)
                    | (rw [ofF_get hp] at g93p; exact g93p h1_)
                    | omega
                    | (have h_ := hq5 p hp; rw [h_] at c4p; omega)).symm, H.pm (Pm.nil _)⟩)
        ·have g98p := of_nd_t g98
         refine ws_off rfl rfl g98 rfl ?_
         refine ws_off rfl rfl g98 rfl ?_
         refine ws_off rfl rfl g98 rfl ?_
         refine ws_off rfl rfl g98 rfl ?_
         refine ws_off rfl rfl g98 rfl ?_
         refine ws_off rfl rfl g98 rfl ?_
         refine ws_v rfl rfl rfl (v_pick_t rfl g98 rfl) ?_
         refine ws_nil ?_
         refine wc_cond_t rfl ?_
         refine wcR ?_
         refine wA ?_
         refine wl_nil ?_
         refine wc_ret ?_
         first
           | (have q_ := c0p
              first
                | exact ⟨_, res1 rfl rfl, congrArg Value.bool (dec_eq ⟨fun hd => (fit0 c0p).2 ⟨g17p, g22p, by omega, by (have h_ := of_decide_eq_true hd; omega)⟩, fun hh => decide_eq_true (by have h_ := (fit0 c0p).1 hh; omega)⟩), Hd.pm (Pm.nil _)⟩
                | exact ⟨_, res1 rfl rfl, congrArg Value.bool (dec_f fun hh => by (have h_ := (fit0 c0p).1 hh; first | omega | exact g17p h_.1 | exact g22p h_.2.1)).symm, Hd.pm (Pm.nil _)⟩)
           | (have q_ := c1p
              first
                | exact ⟨_, res1 rfl rfl, congrArg Value.bool (dec_eq ⟨fun hd => (fit1 c1p).2 ⟨g37p, by omega, g47p, by (have h_ := of_decide_eq_true hd; omega)⟩, fun hh => decide_eq_true (by have h_ := (fit1 c1p).1 hh; omega)⟩), Hd.pm (Pm.nil _)⟩
                | exact ⟨_, res1 rfl rfl, congrArg Value.bool (dec_f fun hh => by (have h_ := (fit1 c1p).1 hh; first | omega | exact g37p h_.1 | exact g47p h_.2.2.1)).symm, Hd.pm (Pm.nil _)⟩)
           | (have q_ := c2p
              first
                | exact ⟨_, res1 rfl rfl, congrArg Value.bool (dec_eq ⟨fun hd => (fit2 c2p).2 ⟨g57p, by omega, by (have h_ := of_decide_eq_true hd; omega)⟩, fun hh => decide_eq_true (by have h_ := (fit2 c2p).1 hh; omega)⟩), Hd.pm (Pm.nil _)⟩
                | exact ⟨_, res1 rfl rfl, congrArg Value.bool (dec_f fun hh => by (have h_ := (fit2 c2p).1 hh; first | omega | exact g57p h_.1 | exact g57p h_.1)).symm, Hd.pm (Pm.nil _)⟩)
           | exact ⟨_, res1 rfl rfl, congrArg Value.bool (dec_f (fitx c0p c1p c2p c3p)).symm, Hd.pm (Pm.nil _)⟩
           | (have q_ := c6p
              exact ⟨_, res1 rfl rfl, congrArg Value.bool (dec_f fun hh => of_ndec (of_n_t c6) ((fitNs_iff _ _).1 ((fit3_f c3p hp).1 hh).2.2.2 i hin)).symm, Hd.pm (Pm.nil _)⟩)
           | (have q_ := c5p
              exact ⟨_, res1 rfl rfl, congrArg Value.bool (dec_t ((fit3_f c3p hp).2 ⟨g93p, by omega, by omega, (fitNs_iff _ _).2 fun j hj => ha j (by omega)⟩)).symm, Hd.pm (Pm.nil _)⟩)
           | (exact ⟨_, res1 rfl rfl, congrArg Value.bool (dec_f fun hh => by
                obtain ⟨p, hp, h1_, h2_, h3_, _⟩ := (fit3 c3p).1 hh
                first
                  | (have h_ := hq4.symm.trans g82p; rw [hp] at h_; cases h_; done)
                  | (rw [ofF_get hp] at g93p; exact g93p h1_)
                  | omega
                  | (have h_ := hq5 p hp; rw [h_] at c4p; omega)).symm, Hd.pm (Pm.nil _)⟩)
       ·have g93p := of_nd_t g93
        refine ws_off rfl rfl g93 rfl ?_
        refine ws_off rfl rfl g93 rfl ?_
        refine ws_v rfl rfl rfl (v_pick_t rfl g93 rfl) ?_
        refine ws_v rfl rfl rfl (v_move rfl) ?_
        refine ws_off rfl rfl rfl rfl ?_
        refine ws_off rfl rfl rfl rfl ?_
        refine ws_off rfl rfl rfl rfl ?_
        refine ws_off rfl rfl rfl rfl ?_
        refine ws_off rfl rfl rfl rfl ?_
        refine ws_off rfl rfl rfl rfl ?_
        refine ws_off rfl rfl rfl rfl ?_
        refine ws_v rfl rfl rfl (v_pick_t rfl rfl rfl) ?_
        refine ws_nil ?_
        refine wc_cond_t rfl ?_
        refine wcR ?_
        refine wA ?_
        refine wl_nil ?_
        refine wc_ret ?_
        first
          | (have q_ := c0p
             first
               | exact ⟨_, res1 rfl rfl, congrArg Value.bool (dec_eq ⟨fun hd => (fit0 c0p).2 ⟨g17p, g22p, by omega, by (have h_ := of_decide_eq_true hd; omega)⟩, fun hh => decide_eq_true (by have h_ := (fit0 c0p).1 hh; omega)⟩), Hd.pm (Pm.nil _)⟩
               | exact ⟨_, res1 rfl rfl, congrArg Value.bool (dec_f fun hh => by (have h_ := (fit0 c0p).1 hh; first | omega | exact g17p h_.1 | exact g22p h_.2.1)).symm, Hd.pm (Pm.nil _)⟩)
          | (have q_ := c1p
             first
               | exact ⟨_, res1 rfl rfl, congrArg Value.bool (dec_eq ⟨fun hd => (fit1 c1p).2 ⟨g37p, by omega, g47p, by (have h_ := of_decide_eq_true hd; omega)⟩, fun hh => decide_eq_true (by have h_ := (fit1 c1p).1 hh; omega)⟩), Hd.pm (Pm.nil _)⟩
               | exact ⟨_, res1 rfl rfl, congrArg Value.bool (dec_f fun hh => by (have h_ := (fit1 c1p).1 hh; first | omega | exact g37p h_.1 | exact g47p h_.2.2.1)).symm, Hd.pm (Pm.nil _)⟩)
          | (have q_ := c2p
             first
               | exact ⟨_, res1 rfl rfl, congrArg Value.bool (dec_eq ⟨fun hd => (fit2 c2p).2 ⟨g57p, by omega, by (have h_ := of_decide_eq_true hd; omega)⟩, fun hh => decide_eq_true (by have h_ := (fit2 c2p).1 hh; omega)⟩), Hd.pm (Pm.nil _)⟩
               | exact ⟨_, res1 rfl rfl, congrArg Value.bool (dec_f fun hh => by (have h_ := (fit2 c2p).1 hh; first | omega | exact g57p h_.1 | exact g57p h_.1)).symm, Hd.pm (Pm.nil _)⟩)
          | exact ⟨_, res1 rfl rfl, congrArg Value.bool (dec_f (fitx c0p c1p c2p c3p)).symm, Hd.pm (Pm.nil _)⟩
          | (have q_ := c6p
             exact ⟨_, res1 rfl rfl, congrArg Value.bool (dec_f fun hh => of_ndec (of_n_t c6) ((fitNs_iff _ _).1 ((fit3_f c3p hp).1 hh).2.2.2 i hin)).symm, Hd.pm (Pm.nil _)⟩)
          | (have q_ := c5p
             exact ⟨_, res1 rfl rfl, congrArg Value.bool (dec_t ((fit3_f c3p hp).2 ⟨g93p, by omega, by omega, (fitNs_iff _ _).2 fun j hj => ha j (by omega)⟩)).symm, Hd.pm (Pm.nil _)⟩)
          | (exact ⟨_, res1 rfl rfl, congrArg Value.bool (dec_f fun hh => by
               obtain ⟨p, hp, h1_, h2_, h3_, _⟩ := (fit3 c3p).1 hh
               first
                 | (have h_ := hq4.symm.trans g82p; rw [hp] at h_; cases h_; done)
                 | (rw [ofF_get hp] at g93p; exact g93p h1_)
                 | omega
                 | (have h_ := hq5 p hp; rw [h_] at c4p; omega)).symm, Hd.pm (Pm.nil _)⟩)
      ·have g82p := of_n_t g82
       refine ws_off rfl rfl g82 rfl ?_
       refine ws_off rfl rfl g82 rfl ?_
       refine ws_off rfl rfl g82 rfl ?_
       refine ws_off rfl rfl g82 rfl ?_
       refine ws_off rfl rfl g82 rfl ?_
       refine ws_off rfl rfl g82 rfl ?_
       refine ws_off rfl rfl g82 rfl ?_
       refine ws_off rfl rfl g82 rfl ?_
       refine ws_v rfl rfl rfl (v_pick_t rfl g82 rfl) ?_
       refine ws_v rfl rfl rfl (v_move rfl) ?_
       refine ws_off rfl rfl rfl rfl ?_
       refine ws_off rfl rfl rfl rfl ?_
       refine ws_off rfl rfl rfl rfl ?_
       refine ws_v rfl rfl rfl (v_pick_t rfl rfl rfl) ?_
       refine ws_v rfl rfl rfl (v_move rfl) ?_
       refine ws_off rfl rfl rfl rfl ?_
       refine ws_off rfl rfl rfl rfl ?_
       refine ws_off rfl rfl rfl rfl ?_
       refine ws_off rfl rfl rfl rfl ?_
       refine ws_off rfl rfl rfl rfl ?_
       refine ws_off rfl rfl rfl rfl ?_
       refine ws_off rfl rfl rfl rfl ?_
       refine ws_v rfl rfl rfl (v_pick_t rfl rfl rfl) ?_
       refine ws_nil ?_
       refine wc_cond_t rfl ?_
       refine wcR ?_
       refine wA ?_
       refine wl_nil ?_
       refine wc_ret ?_
       first
         | (have q_ := c0p
            first
              | exact ⟨_, res1 rfl rfl, congrArg Value.bool (dec_eq ⟨fun hd => (fit0 c0p).2 ⟨g17p, g22p, by omega, by (have h_ := of_decide_eq_true hd; omega)⟩, fun hh => decide_eq_true (by have h_ := (fit0 c0p).1 hh; omega)⟩), Hd.pm (Pm.nil _)⟩
              | exact ⟨_, res1 rfl rfl, congrArg Value.bool (dec_f fun hh => by (have h_ := (fit0 c0p).1 hh; first | omega | exact g17p h_.1 | exact g22p h_.2.1)).symm, Hd.pm (Pm.nil _)⟩)
         | (have q_ := c1p
            first
              | exact ⟨_, res1 rfl rfl, congrArg Value.bool (dec_eq ⟨fun hd => (fit1 c1p).2 ⟨g37p, by omega, g47p, by (have h_ := of_decide_eq_true hd; omega)⟩, fun hh => decide_eq_true (by have h_ := (fit1 c1p).1 hh; omega)⟩), Hd.pm (Pm.nil _)⟩
              | exact ⟨_, res1 rfl rfl, congrArg Value.bool (dec_f fun hh => by (have h_ := (fit1 c1p).1 hh; first | omega | exact g37p h_.1 | exact g47p h_.2.2.1)).symm, Hd.pm (Pm.nil _)⟩)
         | (have q_ := c2p
            first
              | exact ⟨_, res1 rfl rfl, congrArg Value.bool (dec_eq ⟨fun hd => (fit2 c2p).2 ⟨g57p, by omega, by (have h_ := of_decide_eq_true hd; omega)⟩, fun hh => decide_eq_true (by have h_ := (fit2 c2p).1 hh; omega)⟩), Hd.pm (Pm.nil _)⟩
              | exact ⟨_, res1 rfl rfl, congrArg Value.bool (dec_f fun hh => by (have h_ := (fit2 c2p).1 hh; first | omega | exact g57p h_.1 | exact g57p h_.1)).symm, Hd.pm (Pm.nil _)⟩)
         | exact ⟨_, res1 rfl rfl, congrArg Value.bool (dec_f (fitx c0p c1p c2p c3p)).symm, Hd.pm (Pm.nil _)⟩
         | (have q_ := c6p
            exact ⟨_, res1 rfl rfl, congrArg Value.bool (dec_f fun hh => of_ndec (of_n_t c6) ((fitNs_iff _ _).1 ((fit3_f c3p hp).1 hh).2.2.2 i hin)).symm, Hd.pm (Pm.nil _)⟩)
         | (have q_ := c5p
            exact ⟨_, res1 rfl rfl, congrArg Value.bool (dec_t ((fit3_f c3p hp).2 ⟨g93p, by omega, by omega, (fitNs_iff _ _).2 fun j hj => ha j (by omega)⟩)).symm, Hd.pm (Pm.nil _)⟩)
         | (exact ⟨_, res1 rfl rfl, congrArg Value.bool (dec_f fun hh => by
              obtain ⟨p, hp, h1_, h2_, h3_, _⟩ := (fit3 c3p).1 hh
              first
                | (have h_ := hq4.symm.trans g82p; rw [hp] at h_; cases h_; done)
                | (rw [ofF_get hp] at g93p; exact g93p h1_)
                | omega
                | (have h_ := hq5 p hp; rw [h_] at c4p; omega)).symm, Hd.pm (Pm.nil _)⟩)
     ·have c3p := of_decide_eq_false c3
      refine wcR ?_
      refine wA ?_
      refine wl_nil ?_
      refine wc_ret ?_
      first
        | (have q_ := c0p
           first
             | exact ⟨_, res1 rfl rfl, congrArg Value.bool (dec_eq ⟨fun hd => (fit0 c0p).2 ⟨g17p, g22p, by omega, by (have h_ := of_decide_eq_true hd; omega)⟩, fun hh => decide_eq_true (by have h_ := (fit0 c0p).1 hh; omega)⟩), H2.pm (Pm.nil _)⟩
             | exact ⟨_, res1 rfl rfl, congrArg Value.bool (dec_f fun hh => by (have h_ := (fit0 c0p).1 hh; first | omega | exact g17p h_.1 | exact g22p h_.2.1)).symm, H2.pm (Pm.nil _)⟩)
        | (have q_ := c1p
           first
             | exact ⟨_, res1 rfl rfl, congrArg Value.bool (dec_eq ⟨fun hd => (fit1 c1p).2 ⟨g37p, by omega, g47p, by (have h_ := of_decide_eq_true hd; omega)⟩, fun hh => decide_eq_true (by have h_ := (fit1 c1p).1 hh; omega)⟩), H2.pm (Pm.nil _)⟩
             | exact ⟨_, res1 rfl rfl, congrArg Value.bool (dec_f fun hh => by (have h_ := (fit1 c1p).1 hh; first | omega | exact g37p h_.1 | exact g47p h_.2.2.1)).symm, H2.pm (Pm.nil _)⟩)
        | (have q_ := c2p
           first
             | exact ⟨_, res1 rfl rfl, congrArg Value.bool (dec_eq ⟨fun hd => (fit2 c2p).2 ⟨g57p, by omega, by (have h_ := of_decide_eq_true hd; omega)⟩, fun hh => decide_eq_true (by have h_ := (fit2 c2p).1 hh; omega)⟩), H2.pm (Pm.nil _)⟩
             | exact ⟨_, res1 rfl rfl, congrArg Value.bool (dec_f fun hh => by (have h_ := (fit2 c2p).1 hh; first | omega | exact g57p h_.1 | exact g57p h_.1)).symm, H2.pm (Pm.nil _)⟩)
        | exact ⟨_, res1 rfl rfl, congrArg Value.bool (dec_f (fitx c0p c1p c2p c3p)).symm, H2.pm (Pm.nil _)⟩
        | (have q_ := c6p
           exact ⟨_, res1 rfl rfl, congrArg Value.bool (dec_f fun hh => of_ndec (of_n_t c6) ((fitNs_iff _ _).1 ((fit3_f c3p hp).1 hh).2.2.2 i hin)).symm, H2.pm (Pm.nil _)⟩)
        | (have q_ := c5p
           exact ⟨_, res1 rfl rfl, congrArg Value.bool (dec_t ((fit3_f c3p hp).2 ⟨g93p, by omega, by omega, (fitNs_iff _ _).2 fun j hj => ha j (by omega)⟩)).symm, H2.pm (Pm.nil _)⟩)
        | (exact ⟨_, res1 rfl rfl, congrArg Value.bool (dec_f fun hh => by
             obtain ⟨p, hp, h1_, h2_, h3_, _⟩ := (fit3 c3p).1 hh
             first
               | (have h_ := hq4.symm.trans g82p; rw [hp] at h_; cases h_; done)
               | (rw [ofF_get hp] at g93p; exact g93p h1_)
               | omega
               | (have h_ := hq5 p hp; rw [h_] at c4p; omega)).symm, H2.pm (Pm.nil _)⟩)

theorem dvalue_calls {P : List (ByteArray × Ct)} : ∀ t : Nd, ValDOk P t := Tr.ind fun x kids ih => fun w B k bd b0 b1 b2 ns name fC hds hr hf => dvalue_step (t := .mk x kids) hds hr hf ih

set_option maxHeartbeats 1600000 in
set_option maxRecDepth 100000 in
theorem ptyped_calls {l : List Dt} {t : Nd} {A B : Option Addr} {cd k : Nat} {name : ByteArray} {w : World} (hl : DOk l) (hd : Rd kDt w A l) (hr : Rd (kTr fNd) w B t.kids) (hf : t.All smallN) :
    Calls Try.prog 21 #[.slice A l.length cd, .agg #[.int .i64 t.x.kind, .string t.x.name, .int .i64 t.x.tok, .slice B t.kids.length k], .string name] w fun e w' => ∃ v, e = .returned v ∧ v = .bool (dec (TypedOk l t name)) ∧ Holds w [] w' := by
  refine calls_of Try.func21 rfl Try.ntmps21 rfl ?_
  have H := Holds.start w
  refine wcR ?_
  refine wl_box (cs := [_, _, _, _]) H rfl rfl rfl ?_
  intro b4 w1 hb4 H2
  refine wA ?_
  refine wl_nil ?_
  refine wcR ?_
  refine wM ?_
  refine wl_call en48 rfl rfl (known_calls hl hd H2) ?_
  rintro _ w3 ⟨bd, b0, b1, b2, fC, rfl, H3, hkf⟩
  refine wM ?_
  refine wV (v_extract rfl rfl) ?_
  refine wV (v_extract rfl rfl) ?_
  refine wA ?_
  refine wA ?_
  refine wl_nil ?_
  refine wcR ?_
  refine wM ?_
  refine wV (v_eql rfl rfl) ?_
  refine wM ?_
  refine wl_guard rfl rfl rfl (fun g16 => ?_) (fun g16 => ?_)
  ·have g16p := of_decide_eq_true g16
   obtain ⟨hC, HF⟩ := hkf g16p
   replace H3 := HF
   refine wM ?_
   refine wO g16 ?_
   refine wV (v_loadN agg24 rfl rfl (H3.ats (by repeat constructor))) ?_
   refine wO g16 ?_
   refine wM ?_
   refine wO g16 ?_
   refine wl_call en53 rfl rfl (dvalue_calls t _ _ _ bd b0 b1 b2 (nms l) name fC (dsr_of hC H3 (by repeat constructor) (by repeat constructor) (by repeat constructor) (by repeat constructor)) (hr.below H3.old) hf) ?_
   rintro _ w4 ⟨rfl, Hc⟩
   have H5 := H3.call0 Hc
   refine wV (v_pick_t rfl g16 rfl) ?_
   refine wA ?_
   refine wl_nil ?_
   refine wc_ret ?_
   first
     | (have q_ := hC
        exact ⟨_, res1 rfl rfl, congrArg Value.bool (dec_iff ⟨fun h => ⟨g16p, h⟩, fun h => h.2⟩), H5.pm (Pm.nil _)⟩)
     | exact ⟨_, res1 rfl rfl, congrArg Value.bool (dec_f fun hh => g16p hh.1).symm, H5.pm (Pm.nil _)⟩
  ·have g16p := of_decide_eq_false g16
   refine wF g16 ?_
   refine wF g16 ?_
   refine wF g16 ?_
   refine wV (v_pick_f rfl g16 rfl) ?_
   refine wA ?_
   refine wl_nil ?_
   refine wc_ret ?_
   first
     | (have q_ := hC
        exact ⟨_, res1 rfl rfl, congrArg Value.bool (dec_iff ⟨fun h => ⟨g16p, h⟩, fun h => h.2⟩), H3.pm (Pm.nil _)⟩)
     | exact ⟨_, res1 rfl rfl, congrArg Value.bool (dec_f fun hh => g16p hh.1).symm, H3.pm (Pm.nil _)⟩
end Go.Proofs.Ytgdemplcpcacaaa.PTyped

/-! The functions answer on the grammar of one production. -/
namespace Go.Proofs.Ytgdemplcpcacaaa.AliveB
open Go Go.RowKit Go.Proofs.YtgdemplcpcacaaaFx Go.Proofs.Ytgdemplcpcacaaa.WriteW Go.Proofs.Ytgdemplcpcacaaa.PValue Go.Proofs.Ytgdemplcpcacaaa.PCheck Go.Proofs.Ytgdemplcpcacaaa.PTyped
theorem agg24 : Agg Try.prog 24 4 := agg_of Try.underlying24 (by kernel_rfl)
theorem agg44 : Agg Try.prog 44 5 := agg_of Try.underlying44 (by kernel_rfl)
theorem ba44 : BuildAt Try.prog 44 [.slice none 0 0, .slice none 0 0, .slice none 0 0, .slice none 0 0, .int .i64 0] [(0, 1), (1, 1), (2, 1), (3, 1), (4, 1)] := build_at Try.underlying44 (by kernel_rfl) (by kernel_rfl)
theorem ba50 : BuildAt Try.prog 50 [.int .i64 0, .int .i64 0, .slice none 0 0] [(0, 1), (1, 1), (2, 1)] := build_at Try.underlying50 (by kernel_rfl) (by kernel_rfl)
theorem ba69 : BuildAt Try.prog 69 [.int .i64 0, .int .i64 0, .string ⟨#[]⟩, .slice none 0 0] [(0, 1), (1, 1), (2, 1), (3, 1)] := build_at Try.underlying69 (by kernel_rfl) (by kernel_rfl)
theorem ba73 : BuildAt Try.prog 73 [.int .i64 0, .slice none 0 0, .int .i64 0, .int .i64 0, .int .i64 0, .string ⟨#[]⟩, .slice none 0 0] [(0, 1), (1, 1), (2, 1), (3, 4)] := build_at Try.underlying73 (by kernel_rfl) (by kernel_rfl)
theorem ba80 : BuildAt Try.prog 80 [.string ⟨#[]⟩, .slice none 0 0] [(0, 1), (1, 1)] := build_at Try.underlying80 (by kernel_rfl) (by kernel_rfl)
theorem ba83 : BuildAt Try.prog 83 [.string ⟨#[]⟩, .slice none 0 0] [(0, 1), (1, 1)] := build_at Try.underlying83 (by kernel_rfl) (by kernel_rfl)
theorem ba85 : BuildAt Try.prog 85 [.int .i64 0, .int .i64 0, .int .i64 0] [(0, 1), (1, 1), (2, 1)] := build_at Try.underlying85 (by kernel_rfl) (by kernel_rfl)
theorem en11 : Enters Try.prog 11 := enters Try.func11 (by kernel_rfl) rfl
theorem en16 : Enters Try.prog 16 := enters Try.func16 (by kernel_rfl) rfl
theorem en19 : Enters Try.prog 19 := enters Try.func19 (by kernel_rfl) rfl
theorem en21 : Enters Try.prog 21 := enters Try.func21 (by kernel_rfl) rfl
theorem info145 : (Try.prog.info? 145).map (fun i => (i.zero, i.size, i.bytes)) = some (some (.agg #[.int .i64 0, .int .i64 0]), 2, 16) := by kernel_rfl
theorem sz24 : ∀ W, (sizeOf 24).run Try.prog W = .ok 4 W := size_of (by kernel_rfl)
theorem sz3 : ∀ W, (sizeOf 3).run Try.prog W = .ok 1 W := size_of (by kernel_rfl)
theorem sz44 : ∀ W, (sizeOf 44).run Try.prog W = .ok 5 W := size_of (by kernel_rfl)
theorem sz50 : ∀ W, (sizeOf 50).run Try.prog W = .ok 3 W := size_of (by kernel_rfl)
theorem sz69 : ∀ W, (sizeOf 69).run Try.prog W = .ok 4 W := size_of (by kernel_rfl)
theorem sz73 : ∀ W, (sizeOf 73).run Try.prog W = .ok 7 W := size_of (by kernel_rfl)
theorem sz80 : ∀ W, (sizeOf 80).run Try.prog W = .ok 2 W := size_of (by kernel_rfl)
theorem sz83 : ∀ W, (sizeOf 83).run Try.prog W = .ok 2 W := size_of (by kernel_rfl)
theorem sz85 : ∀ W, (sizeOf 85).run Try.prog W = .ok 3 W := size_of (by kernel_rfl)
theorem sz9 : ∀ W, (sizeOf 9).run Try.prog W = .ok 1 W := size_of (by kernel_rfl)
theorem zv24 : ∀ W, (zeroValue 24).run Try.prog W = .ok (.agg #[.int .i64 0, .string ⟨#[]⟩, .int .i64 0, .slice none 0 0]) W := zero_of (by kernel_rfl)
theorem zv3 : ∀ W, (zeroValue 3).run Try.prog W = .ok (.int .i64 0) W := zero_of (by kernel_rfl)
theorem zv44 : ∀ W, (zeroValue 44).run Try.prog W = .ok (.agg #[.slice none 0 0, .slice none 0 0, .slice none 0 0, .slice none 0 0, .int .i64 0]) W := zero_of (by kernel_rfl)
theorem zv50 : ∀ W, (zeroValue 50).run Try.prog W = .ok (.agg #[.int .i64 0, .int .i64 0, .slice none 0 0]) W := zero_of (by kernel_rfl)
theorem zv69 : ∀ W, (zeroValue 69).run Try.prog W = .ok (.agg #[.int .i64 0, .int .i64 0, .string ⟨#[]⟩, .slice none 0 0]) W := zero_of (by kernel_rfl)
theorem zv73 : ∀ W, (zeroValue 73).run Try.prog W = .ok (.agg #[.int .i64 0, .slice none 0 0, .int .i64 0, .int .i64 0, .int .i64 0, .string ⟨#[]⟩, .slice none 0 0]) W := zero_of (by kernel_rfl)
theorem zv80 : ∀ W, (zeroValue 80).run Try.prog W = .ok (.agg #[.string ⟨#[]⟩, .slice none 0 0]) W := zero_of (by kernel_rfl)
theorem zv83 : ∀ W, (zeroValue 83).run Try.prog W = .ok (.agg #[.string ⟨#[]⟩, .slice none 0 0]) W := zero_of (by kernel_rfl)
theorem zv85 : ∀ W, (zeroValue 85).run Try.prog W = .ok (.agg #[.int .i64 0, .int .i64 0, .int .i64 0]) W := zero_of (by kernel_rfl)
theorem zv9 : ∀ W, (zeroValue 9).run Try.prog W = .ok (.string ⟨#[]⟩) W := zero_of (by kernel_rfl)

theorem g_check {w : World} {b9 b11 b17 : Nat} {A10 : Option Addr} {b23 b27 : Nat} (h : gG.rd w ⟨some ⟨b9, 0, none⟩, 3, A10, 3, some ⟨b11, 0, none⟩, 1, some ⟨b17, 0, none⟩, 1⟩) (hl : Rd kDt w (some ⟨b23, 0, none⟩) gL) (ht : Rd kStr w (some ⟨b27, 0, none⟩) gTy) : Calls Try.prog 19 #[.agg #[.slice (some ⟨b9, 0, none⟩) 3 3, .slice A10 3 3, .slice (some ⟨b11, 0, none⟩) 1 1, .slice (some ⟨b17, 0, none⟩) 1 1, .int .i64 0], .slice (some ⟨b23, 0, none⟩) 1 1, .slice (some ⟨b27, 0, none⟩) 1 1] w fun e w' => ∃ v, e = .returned v ∧ v = .tuple #[.int .i64 0, .int .i64 0] ∧ Holds w [] w' := by
  refine (pcheck_calls (cd := 1) (kt := 1) gG_okk h gL_ok hl ht (by decide) (by decide)).mono ?_
  rintro e w' ⟨v, he, p, q, rfl, h1, h2, H⟩
  obtain rfl := h1.2 gC
  obtain rfl := h2 rfl
  exact ⟨_, he, rfl, H⟩

theorem g_value {w : World} {b9 b11 b17 : Nat} {A10 : Option Addr} {b34 b36 : Nat} (h : gG.rd w ⟨some ⟨b9, 0, none⟩, 3, A10, 3, some ⟨b11, 0, none⟩, 1, some ⟨b17, 0, none⟩, 1⟩) (hd : Rd (kTr fDv) w (some ⟨b34, 0, none⟩) gD.kids) (hr : Rd (kInt .i64) w (some ⟨b36, 0, none⟩) [2]) : Calls Try.prog 16 #[.agg #[.slice (some ⟨b9, 0, none⟩) 3 3, .slice A10 3 3, .slice (some ⟨b11, 0, none⟩) 1 1, .slice (some ⟨b17, 0, none⟩) 1 1, .int .i64 0], .agg #[.int .i64 0, .int .i64 0, .slice (some ⟨b34, 0, none⟩) 1 1], .slice (some ⟨b36, 0, none⟩) 1 1] w fun e w' => ∃ v, e = .returned v ∧ ∃ A c, v = .tuple #[.agg #[.int .i64 3, .string ⟨#[78]⟩, .int .i64 0, .slice A 1 c], .int .i64 0] ∧ Holds w [ORow fNd 24 (.slice A 1 c) gN.kids] w' := by
  have h1 := pvalue_calls (k := 1) (cr := 1) (d := gD) (row := [2]) gG_okk h hd hr (by decide) (by decide)
  rw [gE.1, gE.2] at h1
  exact h1

theorem g_text {w : World} {b43 c : Nat} {A : Option Addr} (h : Rd fTk.kn w (some ⟨b43, 0, none⟩) gTk) (hr : Rd (kTr fNd) w A gN.kids) : Calls Try.prog 11 #[.agg #[.int .i64 3, .string ⟨#[78]⟩, .int .i64 0, .slice A 1 c], .string gSrc, .slice (some ⟨b43, 0, none⟩) 1 1] w fun e w' => ∃ v, e = .returned v ∧ v = .tuple #[.string ⟨#[78, 40, 34, 55, 34, 41]⟩, .int .i64 0] ∧ Holds w [] w' := by
  have h1 := ptext_calls (src := gSrc) (t := gN) (k := c) (kt := 1) (by decide) (by decide) h hr gN_small (by decide)
  rw [gX.1, gX.2] at h1
  exact h1

theorem g_typed {w : World} {b23 c : Nat} {A : Option Addr} (hl : Rd kDt w (some ⟨b23, 0, none⟩) gL) (hr : Rd (kTr fNd) w A gN.kids) : Calls Try.prog 21 #[.slice (some ⟨b23, 0, none⟩) 1 1, .agg #[.int .i64 3, .string ⟨#[78]⟩, .int .i64 0, .slice A 1 c], .string ⟨#[69]⟩] w fun e w' => ∃ v, e = .returned v ∧ v = .bool true ∧ Holds w [] w' := by
  have h1 := ptyped_calls (cd := 1) (k := c) (t := gN) (name := ⟨#[69]⟩) gL_ok hl hr gN_small
  rw [dec_t (show TypedOk gL gN ⟨#[69]⟩ from ⟨gL_e, gF⟩)] at h1
  exact h1

set_option maxHeartbeats 6400000 in
set_option maxRecDepth 100000 in
theorem alive_calls {w : World} : Calls Try.prog 10 #[] w fun e w' => ∃ v, e = .returned v ∧ v = .bool true ∧ Holds w [] w' := by
  refine calls_of Try.func10 rfl Try.ntmps10 rfl ?_
  have H := Holds.start w
  refine wcR ?_
  refine wA ?_
  refine wl_nil ?_
  refine wcR ?_
  refine wl_slit (v := .string ⟨#[]⟩) (z := [.string ⟨#[]⟩, .string ⟨#[]⟩, .string ⟨#[]⟩]) (cs := [.string ⟨#[101, 110, 100]⟩, .string ⟨#[101, 114, 114, 111, 114]⟩, .string ⟨#[110]⟩]) (sz := 1) H rfl Try.underlying40 sz9 zv9 (by decide) (by decide) (by kernel_rfl) rfl (by repeat constructor) ?_
  intro b9 w1 hb9 H1 hs1
  refine wl_make (f := fMv) (z' := mv0) (e := 145) (q := 3) H1 rfl Try.underlying41 info145 rfl (by decide) rfl rfl (by decide) (by decide) (by decide) ?_
  intro A10 w2 H2 hs2
  refine wl_slit (v := .string ⟨#[]⟩) (z := [.string ⟨#[]⟩]) (cs := [.string ⟨#[101]⟩]) (sz := 1) H2 rfl Try.underlying40 sz9 zv9 (by decide) (by decide) (by kernel_rfl) rfl (by repeat constructor) ?_
  intro b11 w3 hb11 H3 hs3
  refine wl_slit (v := .int .i64 0) (z := [.int .i64 0]) (cs := [.int .i64 2]) (sz := 1) H3 rfl Try.underlying51 sz3 zv3 (by decide) (by decide) (by kernel_rfl) rfl (by repeat constructor) ?_
  intro b12 w4 hb12 H4 hs4
  refine wV (v_bld ba69 rfl (by repeat constructor)) ?_
  refine wl_slit (v := .agg #[.int .i64 0, .int .i64 0, .string ⟨#[]⟩, .slice none 0 0]) (z := [.int .i64 0, .int .i64 0, .string ⟨#[]⟩, .slice none 0 0]) (cs := [.int .i64 1, .int .i64 0, .string ⟨#[]⟩, .slice none 0 0]) (sz := 4) H4 rfl Try.underlying67 sz69 zv69 (by decide) (by decide) (by kernel_rfl) rfl (by repeat constructor) ?_
  intro b14 w5 hb14 H5 hs5
  refine wV (v_bld ba69 rfl (by repeat constructor)) ?_
  refine wV (v_bld ba73 rfl (by repeat constructor)) ?_
  refine wl_slit (v := .agg #[.int .i64 0, .slice none 0 0, .int .i64 0, .int .i64 0, .int .i64 0, .string ⟨#[]⟩, .slice none 0 0]) (z := [.int .i64 0, .slice none 0 0, .int .i64 0, .int .i64 0, .int .i64 0, .string ⟨#[]⟩, .slice none 0 0]) (cs := [.int .i64 0, .slice (some ⟨b12, 0, none⟩) 1 1, .int .i64 0, .int .i64 2, .int .i64 0, .string ⟨#[78]⟩, .slice (some ⟨b14, 0, none⟩) 1 1]) (sz := 7) H5 rfl Try.underlying42 sz73 zv73 (by decide) (by decide) (by kernel_rfl) rfl (by repeat constructor) ?_
  intro b17 w6 hb17 H6 hs6
  refine wV (v_bld ba44 rfl (by repeat constructor)) ?_
  refine wl_alloc (cs := [.slice none 0 0, .slice none 0 0, .slice none 0 0, .slice none 0 0, .int .i64 0]) H6 rfl zv44 rfl ?_
  intro b1 w7 hb1 H8
  refine wl_store (vs := [_, _, _, _, _]) H8 (by repeat constructor) sz44 rfl rfl rfl rfl rfl (by (repeat constructor)) ?_
  intro w9 H10 hw9
  refine wl_nil ?_
  refine wcR ?_
  refine wl_slit (v := .string ⟨#[]⟩) (z := [.string ⟨#[]⟩]) (cs := [.string tx]) (sz := 1) H10 rfl Try.underlying40 sz9 zv9 (by decide) (by decide) (by kernel_rfl) rfl (by repeat constructor) ?_
  intro b19 w11 hb19 H11 hs11
  refine wV (v_bld ba80 rfl (by repeat constructor)) ?_
  refine wl_slit (v := .agg #[.string ⟨#[]⟩, .slice none 0 0]) (z := [.string ⟨#[]⟩, .slice none 0 0]) (cs := [.string ⟨#[78]⟩, .slice (some ⟨b19, 0, none⟩) 1 1]) (sz := 2) H11 rfl Try.underlying81 sz80 zv80 (by decide) (by decide) (by kernel_rfl) rfl (by repeat constructor) ?_
  intro b21 w12 hb21 H12 hs12
  refine wV (v_bld ba83 rfl (by repeat constructor)) ?_
  refine wl_slit (v := .agg #[.string ⟨#[]⟩, .slice none 0 0]) (z := [.string ⟨#[]⟩, .slice none 0 0]) (cs := [.string ⟨#[69]⟩, .slice (some ⟨b21, 0, none⟩) 1 1]) (sz := 2) H12 rfl Try.underlying45 sz83 zv83 (by decide) (by decide) (by kernel_rfl) rfl (by repeat constructor) ?_
  intro b23 w13 hb23 H13 hs13
  refine wA ?_
  refine wl_nil ?_
  refine wcR ?_
  refine wV (v_loadN agg44 rfl rfl (H13.ats (by repeat constructor))) ?_
  refine wM ?_
  refine wl_slit (v := .string ⟨#[]⟩) (z := [.string ⟨#[]⟩]) (cs := [.string ⟨#[69]⟩]) (sz := 1) H13 rfl Try.underlying40 sz9 zv9 (by decide) (by decide) (by kernel_rfl) rfl (by repeat constructor) ?_
  intro b27 w14 hb27 H14 hs14
  refine wl_call en19 rfl rfl (g_check (gG_rd (b12 := b12) (b14 := b14) H14 (by repeat constructor) (by repeat constructor) (by repeat constructor) (by repeat constructor) (by repeat constructor) (by repeat constructor)) (gL_rd H14 (by repeat constructor) (by repeat constructor) (by repeat constructor)) (gTy_rd H14 (by repeat constructor))) ?_
  rintro _ w15 ⟨rfl, Hc⟩
  have H16 := H14.call0 Hc
  refine wM ?_
  refine wV (v_extract rfl rfl) ?_
  refine wV (v_extract rfl rfl) ?_
  refine wA ?_
  refine wA ?_
  refine wl_nil ?_
  refine wcR ?_
  refine wV (v_loadN agg44 rfl rfl (H16.ats (by repeat constructor))) ?_
  refine wV (v_bld ba50 rfl (by repeat constructor)) ?_
  refine wl_slit (v := .agg #[.int .i64 0, .int .i64 0, .slice none 0 0]) (z := [.int .i64 0, .int .i64 0, .slice none 0 0]) (cs := [.int .i64 (-1), .int .i64 0, .slice none 0 0]) (sz := 3) H16 rfl Try.underlying48 sz50 zv50 (by decide) (by decide) (by kernel_rfl) rfl (by repeat constructor) ?_
  intro b34 w17 hb34 H17 hs17
  refine wV (v_bld ba50 rfl (by repeat constructor)) ?_
  refine wl_slit (v := .int .i64 0) (z := [.int .i64 0]) (cs := [.int .i64 2]) (sz := 1) H17 rfl Try.underlying51 sz3 zv3 (by decide) (by decide) (by kernel_rfl) rfl (by repeat constructor) ?_
  intro b36 w18 hb36 H18 hs18
  refine wl_call en16 rfl rfl (g_value (gG_rd (b12 := b12) (b14 := b14) H18 (by repeat constructor) (by repeat constructor) (by repeat constructor) (by repeat constructor) (by repeat constructor) (by repeat constructor)) (gD_rd H18 (by repeat constructor)) (gRow_rd (b := b36) H18 (by repeat constructor))) ?_
  rintro _ w19 ⟨A5, c5, rfl, Hc⟩
  have H20 := H18.call Hc
  refine wM ?_
  refine wV (v_extract rfl rfl) ?_
  refine wV (v_extract rfl rfl) ?_
  refine wl_alloc (cs := [.int .i64 0, .string ⟨#[]⟩, .int .i64 0, .slice none 0 0]) H20 rfl zv24 rfl ?_
  intro b5 w21 hb5 H22
  refine wl_store (vs := [_, _, _, _]) H22 (by repeat constructor) sz24 rfl rfl rfl rfl rfl (by (repeat constructor)) ?_
  intro w23 H24 hw23
  refine wA ?_
  refine wl_nil ?_
  refine wcR ?_
  refine wV (v_loadN agg24 rfl rfl (H24.ats (by repeat constructor))) ?_
  refine wV (v_bld ba85 rfl (by repeat constructor)) ?_
  refine wl_slit (v := .agg #[.int .i64 0, .int .i64 0, .int .i64 0]) (z := [.int .i64 0, .int .i64 0, .int .i64 0]) (cs := [.int .i64 2, .int .i64 0, .int .i64 1]) (sz := 3) H24 rfl Try.underlying25 sz85 zv85 (by decide) (by decide) (by kernel_rfl) rfl (by repeat constructor) ?_
  intro b43 w25 hb43 H25 hs25
  refine wl_call en11 rfl rfl (g_text (gTk_rd H25 (by repeat constructor)) (H25.oRd (f := fNd) (e := 24) (x := ⟨0, ⟨#[]⟩, 0⟩) (by repeat constructor))) ?_
  rintro _ w26 ⟨rfl, Hc⟩
  have H27 := H25.call0 Hc
  refine wM ?_
  refine wV (v_extract rfl rfl) ?_
  refine wV (v_extract rfl rfl) ?_
  refine wA ?_
  refine wA ?_
  refine wl_nil ?_
  refine wcR ?_
  refine wM ?_
  refine wV (v_eql rfl rfl) ?_
  refine wM ?_
  refine wl_guard rfl rfl rfl (fun g49 => ?_) (fun g49 => ?_)
  ·have g49p := of_decide_eq_true g49
   refine wM ?_
   refine wO g49 ?_
   refine wV (v_eql rfl rfl) ?_
   refine wV (v_pick_t rfl g49 rfl) ?_
   refine wM ?_
   refine wl_guard rfl rfl rfl (fun g53 => ?_) (fun g53 => ?_)
   ·have g53p := of_decide_eq_true g53
    refine wM ?_
    refine wO g53 ?_
    refine wV (v_eql rfl rfl) ?_
    refine wV (v_pick_t rfl g53 rfl) ?_
    refine wM ?_
    refine wl_guard rfl rfl rfl (fun g57 => ?_) (fun g57 => ?_)
    ·have g57p := of_decide_eq_true g57
     refine wM ?_
     refine wO g57 ?_
     refine wV (v_eqls rfl rfl) ?_
     refine wV (v_pick_t rfl g57 rfl) ?_
     refine wM ?_
     refine wl_guard rfl rfl rfl (fun g61 => ?_) (fun g61 => ?_)
     ·have g61p := of_decide_eq_true g61
      refine wM ?_
      refine wO g61 ?_
      refine wV (v_eql rfl rfl) ?_
      refine wV (v_pick_t rfl g61 rfl) ?_
      refine wM ?_
      refine wl_guard rfl rfl rfl (fun g65 => ?_) (fun g65 => ?_)
      ·have g65p := of_decide_eq_true g65
       refine wM ?_
       refine wO g65 ?_
       refine wV (v_loadN agg24 rfl rfl (H27.ats (by repeat constructor))) ?_
       refine wO g65 ?_
       refine wl_call en21 rfl rfl (g_typed (gL_rd H27 (by repeat constructor) (by repeat constructor) (by repeat constructor)) (H27.oRd (f := fNd) (e := 24) (x := ⟨0, ⟨#[]⟩, 0⟩) (by repeat constructor))) ?_
       rintro _ w28 ⟨rfl, Hc⟩
       have H29 := H27.call0 Hc
       refine wV (v_pick_t rfl g65 rfl) ?_
       refine wA ?_
       refine wl_nil ?_
       refine wc_ret ?_
       exact ⟨_, res1 rfl rfl, rfl, H29.pm (by repeat (first | exact pm_refl _ | constructor | refine pm_skip ?_))⟩
      ·have g65p := of_decide_eq_false g65
       exact absurd g65 (by decide)
     ·have g61p := of_decide_eq_false g61
      exact absurd g61 (by decide)
    ·have g57p := of_decide_eq_false g57
     exact absurd g57 (by decide)
   ·have g53p := of_decide_eq_false g53
    exact absurd g53 (by decide)
  ·have g49p := of_decide_eq_false g49
   exact absurd g49 (by decide)
end Go.Proofs.Ytgdemplcpcacaaa.AliveB

/-! Whether two nodes are the same. -/
namespace Go.Proofs.Ytgdemplcpcacaaa.SameN
open Go Go.RowKit Go.Proofs.YtgdemplcpcacaaaFx 
theorem agg24 : Agg Try.prog 24 4 := agg_of Try.underlying24 (by kernel_rfl)
theorem en14 : Enters Try.prog 14 := enters Try.func14 (by kernel_rfl) rfl
theorem fa24_0 : FieldAt Try.prog 24 0 0 := field_at (sz := 0) Try.underlying24 rfl (by kernel_rfl) rfl
theorem fa24_1 : FieldAt Try.prog 24 1 1 := field_at (sz := 0) Try.underlying24 rfl (by kernel_rfl) rfl
theorem fa24_2 : FieldAt Try.prog 24 2 2 := field_at (sz := 0) Try.underlying24 rfl (by kernel_rfl) rfl
theorem fa24_3 : FieldAt Try.prog 24 3 3 := field_at (sz := 0) Try.underlying24 rfl (by kernel_rfl) rfl
theorem mixed : Try.prog.follows .mixedOrders = true := by kernel_rfl
theorem one22 : One Try.prog 22 := one_of Try.underlying22 rfl (by kernel_rfl)
theorem one3 : One Try.prog 3 := one_of Try.underlying3 rfl (by kernel_rfl)
theorem one9 : One Try.prog 9 := one_of Try.underlying9 rfl (by kernel_rfl)
theorem sz24 : ∀ W, (sizeOf 24).run Try.prog W = .ok 4 W := size_of (by kernel_rfl)

theorem ndp_eq {a b : NdP} (h1 : a.kind = b.kind) (h2 : a.name = b.name) (h3 : a.tok = b.tok) : a = b := by
  cases a
  cases b
  cases h1
  cases h2
  cases h3
  rfl
theorem nd_ext {t u : Nd} (hx : t.x = u.x) (hl : t.kids.length = u.kids.length) (h : ∀ j, j < t.kids.length → t.kids.getD j nd0 = u.kids.getD j nd0) : t = u := by
  have hk : t.kids = u.kids := List.ext_getElem hl fun j h1 h2 => by
    have := h j h1
    rwa [List.getD_eq_getElem?_getD, List.getD_eq_getElem?_getD, List.getElem?_eq_getElem h1, List.getElem?_eq_getElem h2] at this
  cases t
  cases u
  cases hx
  cases hk
  rfl

def rsameOk (t : Nd) : Prop := ∀ (u : Nd) (w : World) (A B : Option Addr) (k k2 : Nat) (ht : Rd (kTr fNd) w A t.kids) (hu : Rd (kTr fNd) w B u.kids) (hf : t.All few), Calls Try.prog 14 #[.agg #[.int .i64 t.x.kind, .string t.x.name, .int .i64 t.x.tok, .slice A t.kids.length k], .agg #[.int .i64 u.x.kind, .string u.x.name, .int .i64 u.x.tok, .slice B u.kids.length k2]] w fun e w' => ∃ v, e = .returned v ∧ v = .bool (dec (t = u)) ∧ Holds w [] w'

set_option maxHeartbeats 3200000 in
set_option maxRecDepth 100000 in
theorem rsame_step {t u : Nd} {w : World} {A B : Option Addr} {k k2 : Nat} (ht : Rd (kTr fNd) w A t.kids) (hu : Rd (kTr fNd) w B u.kids) (hf : t.All few) (ih : ∀ t' ∈ t.kids, rsameOk t') : Calls Try.prog 14 #[.agg #[.int .i64 t.x.kind, .string t.x.name, .int .i64 t.x.tok, .slice A t.kids.length k], .agg #[.int .i64 u.x.kind, .string u.x.name, .int .i64 u.x.tok, .slice B u.kids.length k2]] w fun e w' => ∃ v, e = .returned v ∧ v = .bool (dec (t = u)) ∧ Holds w [] w' := by
  obtain ⟨hkk, hks⟩ := (Tr.All_eq t).1 hf
  unfold few at hkk
  refine calls_of Try.func14 rfl Try.ntmps14 rfl ?_
  have H := Holds.start w
  refine wcR ?_
  refine wl_box (cs := [_, _, _, _]) H rfl rfl rfl ?_
  intro b2 w1 hb2 H2
  refine wl_box (cs := [_, _, _, _]) H2 rfl rfl rfl ?_
  intro b3 w3 hb3 H4
  refine wA ?_
  refine wl_nil ?_
  refine wc_seq ?_
  refine wc_cut (σ := Bool) (fun q => [(2, .pointer (some ⟨b2, 0, none⟩)), (3, .pointer (some ⟨b3, 0, none⟩)), (33, .bool q)]) (fun q W => q = dec (¬ (t.x = u.x ∧ t.kids.length = u.kids.length)) ∧ Holds w [Blk b3 24 [.int .i64 u.x.kind, .string u.x.name, .int .i64 u.x.tok, .slice B u.kids.length k2], Blk b2 24 [.int .i64 t.x.kind, .string t.x.name, .int .i64 t.x.tok, .slice A t.kids.length k]] W) ?_ ?_
  ·refine wc_region ?_
   refine wV (v_fb (o2 := 0) fa24_0 rfl rfl) ?_
   refine wV (v_load one3 rfl (H4.at (by repeat constructor) rfl)) ?_
   refine wV (v_fb (o2 := 0) fa24_0 rfl rfl) ?_
   refine wV (v_load one3 rfl (H4.at (by repeat constructor) rfl)) ?_
   refine wV (v_neq rfl rfl) ?_
   refine wM ?_
   refine wl_guard rfl rfl rfl (fun g11 => ?_) (fun g11 => ?_)
   ·have g11p := of_nd_f g11
    refine wV (v_fb (o2 := 1) fa24_1 rfl rfl) ?_
    refine wO g11 ?_
    refine wV (v_load one9 rfl (H4.at (by repeat constructor) rfl)) ?_
    refine wO g11 ?_
    refine wV (v_fb (o2 := 1) fa24_1 rfl rfl) ?_
    refine wO g11 ?_
    refine wV (v_load one9 rfl (H4.at (by repeat constructor) rfl)) ?_
    refine wO g11 ?_
    refine wV (v_neqs rfl rfl) ?_
    refine wV (v_pick_f rfl g11 rfl) ?_
    refine wM ?_
    refine wl_guard rfl rfl rfl (fun g18 => ?_) (fun g18 => ?_)
    ·have g18p := of_nd_f g18
     refine wV (v_fb (o2 := 2) fa24_2 rfl rfl) ?_
     refine wO g18 ?_
     refine wV (v_load one3 rfl (H4.at (by repeat constructor) rfl)) ?_
     refine wO g18 ?_
     refine wV (v_fb (o2 := 2) fa24_2 rfl rfl) ?_
     refine wO g18 ?_
     refine wV (v_load one3 rfl (H4.at (by repeat constructor) rfl)) ?_
     refine wO g18 ?_
     refine wV (v_neq rfl rfl) ?_
     refine wV (v_pick_f rfl g18 rfl) ?_
     refine wM ?_
     refine wl_guard rfl rfl rfl (fun g25 => ?_) (fun g25 => ?_)
     ·have g25p := of_nd_f g25
      refine wV (v_fb (o2 := 3) fa24_3 rfl rfl) ?_
      refine wO g25 ?_
      refine wV (v_load one22 rfl (H4.at (by repeat constructor) rfl)) ?_
      refine wO g25 ?_
      refine wV (v_len Try.underlying22 rfl) ?_
      refine wO g25 ?_
      refine wV (v_fb (o2 := 3) fa24_3 rfl rfl) ?_
      refine wO g25 ?_
      refine wV (v_load one22 rfl (H4.at (by repeat constructor) rfl)) ?_
      refine wO g25 ?_
      refine wV (v_len Try.underlying22 rfl) ?_
      refine wO g25 ?_
      refine wV (v_neq rfl rfl) ?_
      refine wV (v_pick_f rfl g25 rfl) ?_
      refine wl_nil ?_
      first
        | exact ⟨_, (sc rfl (sc rfl (sc rfl (sn _)))), ⟨dec_eq ⟨fun hd hh => (by have h_ := of_nd_t hd; have h2_ := hh.2; omega), fun hh => (by
            cases h_ : decide ((t.kids.length : Int) = u.kids.length)
            · rfl
            · exact absurd ⟨ndp_eq g11p g18p g25p, by have h2_ := of_decide_eq_true h_; omega⟩ hh)⟩, H4⟩⟩
        | exact ⟨_, (sc rfl (sc rfl (sc rfl (sn _)))), ⟨(dec_t fun hh => g11p (congrArg NdP.kind hh.1)).symm, H4⟩⟩
        | exact ⟨_, (sc rfl (sc rfl (sc rfl (sn _)))), ⟨(dec_t fun hh => g18p (congrArg NdP.name hh.1)).symm, H4⟩⟩
        | exact ⟨_, (sc rfl (sc rfl (sc rfl (sn _)))), ⟨(dec_t fun hh => g25p (congrArg NdP.tok hh.1)).symm, H4⟩⟩
     ·have g25p := of_nd_t g25
      refine wF g25 ?_
      refine wF g25 ?_
      refine wF g25 ?_
      refine wF g25 ?_
      refine wF g25 ?_
      refine wF g25 ?_
      refine wV (v_pick_t rfl g25 rfl) ?_
      refine wl_nil ?_
      first
        | exact ⟨_, (sc rfl (sc rfl (sc rfl (sn _)))), ⟨dec_eq ⟨fun hd hh => (by have h_ := of_nd_t hd; have h2_ := hh.2; omega), fun hh => (by
            cases h_ : decide ((t.kids.length : Int) = u.kids.length)
            · rfl
            · exact absurd ⟨ndp_eq g11p g18p g25p, by have h2_ := of_decide_eq_true h_; omega⟩ hh)⟩, H4⟩⟩
        | exact ⟨_, (sc rfl (sc rfl (sc rfl (sn _)))), ⟨(dec_t fun hh => g11p (congrArg NdP.kind hh.1)).symm, H4⟩⟩
        | exact ⟨_, (sc rfl (sc rfl (sc rfl (sn _)))), ⟨(dec_t fun hh => g18p (congrArg NdP.name hh.1)).symm, H4⟩⟩
        | exact ⟨_, (sc rfl (sc rfl (sc rfl (sn _)))), ⟨(dec_t fun hh => g25p (congrArg NdP.tok hh.1)).symm, H4⟩⟩
    ·have g18p := of_nd_t g18
     refine wF g18 ?_
     refine wF g18 ?_
     refine wF g18 ?_
     refine wF g18 ?_
     refine wV (v_pick_t rfl g18 rfl) ?_
     refine wM ?_
     refine wF rfl ?_
     refine wF rfl ?_
     refine wF rfl ?_
     refine wF rfl ?_
     refine wF rfl ?_
     refine wF rfl ?_
     refine wF rfl ?_
     refine wV (v_pick_t rfl rfl rfl) ?_
     refine wl_nil ?_
     first
       | exact ⟨_, (sc rfl (sc rfl (sc rfl (sn _)))), ⟨dec_eq ⟨fun hd hh => (by have h_ := of_nd_t hd; have h2_ := hh.2; omega), fun hh => (by
           cases h_ : decide ((t.kids.length : Int) = u.kids.length)
           · rfl
           · exact absurd ⟨ndp_eq g11p g18p g25p, by have h2_ := of_decide_eq_true h_; omega⟩ hh)⟩, H4⟩⟩
       | exact ⟨_, (sc rfl (sc rfl (sc rfl (sn _)))), ⟨(dec_t fun hh => g11p (congrArg NdP.kind hh.1)).symm, H4⟩⟩
       | exact ⟨_, (sc rfl (sc rfl (sc rfl (sn _)))), ⟨(dec_t fun hh => g18p (congrArg NdP.name hh.1)).symm, H4⟩⟩
       | exact ⟨_, (sc rfl (sc rfl (sc rfl (sn _)))), ⟨(dec_t fun hh => g25p (congrArg NdP.tok hh.1)).symm, H4⟩⟩
   ·have g11p := of_nd_t g11
    refine wF g11 ?_
    refine wF g11 ?_
    refine wF g11 ?_
    refine wF g11 ?_
    refine wV (v_pick_t rfl g11 rfl) ?_
    refine wM ?_
    refine wF rfl ?_
    refine wF rfl ?_
    refine wF rfl ?_
    refine wF rfl ?_
    refine wF rfl ?_
    refine wV (v_pick_t rfl rfl rfl) ?_
    refine wM ?_
    refine wF rfl ?_
    refine wF rfl ?_
    refine wF rfl ?_
    refine wF rfl ?_
    refine wF rfl ?_
    refine wF rfl ?_
    refine wF rfl ?_
    refine wV (v_pick_t rfl rfl rfl) ?_
    refine wl_nil ?_
    first
      | exact ⟨_, (sc rfl (sc rfl (sc rfl (sn _)))), ⟨dec_eq ⟨fun hd hh => (by have h_ := of_nd_t hd; have h2_ := hh.2; omega), fun hh => (by
          cases h_ : decide ((t.kids.length : Int) = u.kids.length)
          · rfl
          · exact absurd ⟨ndp_eq g11p g18p g25p, by have h2_ := of_decide_eq_true h_; omega⟩ hh)⟩, H4⟩⟩
      | exact ⟨_, (sc rfl (sc rfl (sc rfl (sn _)))), ⟨(dec_t fun hh => g11p (congrArg NdP.kind hh.1)).symm, H4⟩⟩
      | exact ⟨_, (sc rfl (sc rfl (sc rfl (sn _)))), ⟨(dec_t fun hh => g18p (congrArg NdP.name hh.1)).symm, H4⟩⟩
      | exact ⟨_, (sc rfl (sc rfl (sc rfl (sn _)))), ⟨(dec_t fun hh => g25p (congrArg NdP.tok hh.1)).symm, H4⟩⟩
  ·rintro q Wm ⟨hq, H⟩
   refine wc_cond rfl (fun c0 => ?_) (fun c0 => ?_)
   ·refine wcR ?_
    refine wA ?_
    refine wl_nil ?_
    refine wc_ret ?_
    first
      | (have q_ := c2
         exact ⟨_, res1 rfl rfl, congrArg Value.bool (dec_f fun hh => of_ndec (of_n_t c2) (by rw [hh])).symm, H.pm (by repeat (first | exact Pm.nil _ | constructor))⟩)
      | (have q_ := c1p
         exact ⟨_, res1 rfl rfl, congrArg Value.bool (dec_t (nd_ext hx hlen fun j hj => ha j (by omega))).symm, H.pm (by repeat (first | exact Pm.nil _ | constructor))⟩)
      | exact ⟨_, res1 rfl rfl, congrArg Value.bool (dec_f fun hh => of_dec (hq.symm.trans c0) (by rw [hh]; exact ⟨rfl, rfl⟩)).symm, H.pm (by repeat (first | exact Pm.nil _ | constructor))⟩
   ·obtain ⟨hx, hlen⟩ := Classical.byContradiction (of_ndec (hq.symm.trans c0))
    refine wc_skip ?_
    refine wc_seq ?_
    refine wcR ?_
    refine wA ?_
    refine wl_nil ?_
    refine wc_block ?_
    refine wc_loop (σ := Nat) (fun s => [(2, .pointer (some ⟨b2, 0, none⟩)), (3, .pointer (some ⟨b3, 0, none⟩)), (5, .int .i64 s)]) (fun s W => (s ≤ t.kids.length ∧ ∀ j, j < s → t.kids.getD j nd0 = u.kids.getD j nd0) ∧ Holds w [Blk b3 24 [.int .i64 u.x.kind, .string u.x.name, .int .i64 u.x.tok, .slice B u.kids.length k2], Blk b2 24 [.int .i64 t.x.kind, .string t.x.name, .int .i64 t.x.tok, .slice A t.kids.length k]] W) (fun s => t.kids.length - s) 0 (sc rfl (sc rfl (sc rfl (sn _)))) ⟨⟨Nat.zero_le _, upto_zero⟩, H⟩ ?_
    rintro i W0 ⟨⟨hi, ha⟩, H⟩
    refine wc_seq ?_
    refine wcR ?_
    refine wM ?_
    refine wV (v_fb (o2 := 3) fa24_3 rfl rfl) ?_
    refine wV (v_load one22 rfl (H.at (by repeat constructor) rfl)) ?_
    refine wV (v_len Try.underlying22 rfl) ?_
    refine wV (v_lss rfl rfl) ?_
    refine wl_nil ?_
    refine wc_cond rfl (fun c1 => ?_) (fun c1 => ?_)
    ·have c1p := of_decide_eq_true c1
     have hin : i < t.kids.length := by omega
     refine wc_skip ?_
     refine wc_seq ?_
     refine wc_block ?_
     refine wc_seq ?_
     refine wc_tree [0, 1, 2, 3, 4, 5, 6, 7, 8, 9] (fun W => Holds w [Blk b3 24 [.int .i64 u.x.kind, .string u.x.name, .int .i64 u.x.tok, .slice B u.kids.length k2], Blk b2 24 [.int .i64 t.x.kind, .string t.x.name, .int .i64 t.x.tok, .slice A t.kids.length k]] W) mixed ?_
     have Hd := H.drew
     have HSd : Holds w [Blk b3 24 [.int .i64 u.x.kind, .string u.x.name, .int .i64 u.x.tok, .slice B u.kids.length k2], Blk b2 24 [.int .i64 t.x.kind, .string t.x.name, .int .i64 t.x.tok, .slice A t.kids.length k]] _ := Hd.pm (by repeat constructor)
     refine wjV (k := 0) rfl HSd (fun W HW => v_fb (o2 := 3) fa24_3 rfl rfl) ?_
     refine wjV (k := 1) rfl HSd (fun W HW => v_load one22 rfl (HW.at (by repeat constructor) rfl)) ?_
     refine wjV (k := 2) rfl HSd (fun W HW => v_move rfl) ?_
     refine wjV (k := 3) rfl HSd (fun W HW => v_idx Try.underlying22 sz24 ht.ad rfl rfl (by omega) (by omega)) ?_
     obtain ⟨B45_, k45_, hc45_, hl45_, hr45_⟩ := ht.atTr nd0 (i := i) (by omega)
     refine wjV (k := 4) rfl HSd (fun W HW => v_loadN (cs := [.int .i64 (t.kids.getD i nd0).x.kind, .string (t.kids.getD i nd0).x.name, .int .i64 (t.kids.getD i nd0).x.tok, .slice B45_ (t.kids.getD i nd0).kids.length k45_]) agg24 rfl rfl (fun q_ u_ hu_ => HW.cell (hc45_ q_ u_ hu_))) ?_
     refine wjV (k := 5) rfl HSd (fun W HW => v_fb (o2 := 3) fa24_3 rfl rfl) ?_
     refine wjV (k := 6) rfl HSd (fun W HW => v_load one22 rfl (HW.at (by repeat constructor) rfl)) ?_
     refine wjV (k := 7) rfl HSd (fun W HW => v_move rfl) ?_
     refine wjV (k := 8) rfl HSd (fun W HW => v_idx Try.underlying22 sz24 hu.ad rfl rfl (by omega) (by omega)) ?_
     obtain ⟨B50_, k50_, hc50_, hl50_, hr50_⟩ := hu.atTr nd0 (i := i) (by omega)
     refine wjV (k := 9) rfl HSd (fun W HW => v_loadN (cs := [.int .i64 (u.kids.getD i nd0).x.kind, .string (u.kids.getD i nd0).x.name, .int .i64 (u.kids.getD i nd0).x.tok, .slice B50_ (u.kids.getD i nd0).kids.length k50_]) agg24 rfl rfl (fun q_ u_ hu_ => HW.cell (hc50_ q_ u_ hu_))) ?_
     refine wj_t (k := 10) rfl (by kernel_rfl) ?_
     refine wl_call en14 rfl rfl (ih _ (getD_mem (z := nd0) hin) _ _ _ _ _ _ (hr45_.below Hd.old) (hr50_.below Hd.old) (Tr.Alls_at nd0 hin hks)) ?_
     rintro _ w5 ⟨rfl, Hc⟩
     have H6 := Hd.call0 Hc
     refine wl_nil (tn ⟨fun hlt => absurd hlt (by rw [show allH _ _ _ = true by kernel_rfl]; simp), ?_⟩)
     refine wj_t (k := 11) rfl (by kernel_rfl) ?_
     refine wV (v_not rfl) ?_
     refine wl_nil (tn ⟨fun hlt => absurd hlt (by rw [show allH _ _ _ = true by kernel_rfl]; simp), ?_⟩)
     refine wj_done (by kernel_rfl) ?_
     refine wc_cond rfl (fun c2 => ?_) (fun c2 => ?_)
     ·have c2p := of_n_t c2
      refine wcR ?_
      refine wA ?_
      refine wl_nil ?_
      refine wc_ret ?_
      first
        | (have q_ := c2
           exact ⟨_, res1 rfl rfl, congrArg Value.bool (dec_f fun hh => of_ndec (of_n_t c2) (by rw [hh])).symm, H6.pm (by repeat (first | exact Pm.nil _ | constructor))⟩)
        | (have q_ := c1p
           exact ⟨_, res1 rfl rfl, congrArg Value.bool (dec_t (nd_ext hx hlen fun j hj => ha j (by omega))).symm, H6.pm (by repeat (first | exact Pm.nil _ | constructor))⟩)
        | exact ⟨_, res1 rfl rfl, congrArg Value.bool (dec_f fun hh => of_dec (hq.symm.trans c0) (by rw [hh]; exact ⟨rfl, rfl⟩)).symm, H6.pm (by repeat (first | exact Pm.nil _ | constructor))⟩
     ·have c2p := of_n_f c2
      refine wc_skip ?_
      refine wc_region ?_
      refine wM ?_
      refine wV (v_addi rfl rfl (by omega)) ?_
      refine wA ?_
      refine wl_nil ?_
      exact ⟨i + 1, (sc rfl (sc rfl (sc rfl (sn _)))), ⟨⟨by omega, upto_succ ha (of_dec (of_n_f c2))⟩, H6⟩, by omega⟩
    ·have c1p := of_decide_eq_false c1
     refine wc_exit ?_
     refine wcR ?_
     refine wA ?_
     refine wl_nil ?_
     refine wc_ret ?_
     first
       | (have q_ := c2
          exact ⟨_, res1 rfl rfl, congrArg Value.bool (dec_f fun hh => of_ndec (of_n_t c2) (by rw [hh])).symm, H.pm (by repeat (first | exact Pm.nil _ | constructor))⟩)
       | (have q_ := c1p
          exact ⟨_, res1 rfl rfl, congrArg Value.bool (dec_t (nd_ext hx hlen fun j hj => ha j (by omega))).symm, H.pm (by repeat (first | exact Pm.nil _ | constructor))⟩)
       | exact ⟨_, res1 rfl rfl, congrArg Value.bool (dec_f fun hh => of_dec (hq.symm.trans c0) (by rw [hh]; exact ⟨rfl, rfl⟩)).symm, H.pm (by repeat (first | exact Pm.nil _ | constructor))⟩

theorem rsame_calls : ∀ t : Nd, rsameOk t := Tr.ind fun x kids ih => fun u w A B k k2 ht hu hf => rsame_step (t := .mk x kids) ht hu hf ih
end Go.Proofs.Ytgdemplcpcacaaa.SameN

/-! A production's action put in the place of another: rows of productions of the call's own; what it changes. -/
namespace Go.Proofs.YtgdemplcpcacaaaFx
open Go Go.RowKit
/-- A production, and where its parts are. -/
structure PrX where
  p : Pr
  r : Option Addr
  c : Nat
  b : Option Addr
  k : Nat
def prx0 : PrX := ⟨pr0, none, 0, none, 0⟩
def fPrX : Fk PrX := ⟨7, fun x => [.int .i64 x.p.left, .slice x.r x.p.right.length x.c, .int .i64 x.p.level, .int .i64 x.p.act.x.kind, .int .i64 x.p.act.x.at_, .string x.p.act.x.name, .slice x.b x.p.act.kids.length x.k], fun _ => rfl, fun x u hu => by
  simp only [List.mem_cons, List.not_mem_nil, or_false] at hu
  rcases hu with rfl | rfl | rfl | rfl | rfl | rfl | rfl <;> rfl⟩
def PrIn (w : World) (x : PrX) : Prop := (x.p.right.length ≤ x.c ∧ x.p.act.kids.length ≤ x.k) ∧ Rd (kInt .i64) w x.r x.p.right ∧ Rd (kTr fAc) w x.b x.p.act.kids
theorem PrIn.below {w w' : World} {x : PrX} (h : PrIn w x) (hb : Below w.heap.size w w') : PrIn w' x := ⟨h.1, h.2.1.below hb, h.2.2.below hb⟩
theorem ex_list {β : Type} (z : β) (R : Nat → β → Prop) : ∀ n, (∀ j, j < n → ∃ x, R j x) → ∃ xs : List β, xs.length = n ∧ ∀ j, j < n → R j (xs.getD j z)
  | 0, _ => ⟨[], rfl, fun j h => by omega⟩
  | n + 1, h => by
    obtain ⟨xs, h1, h2⟩ := ex_list z R n fun j hj => h j (by omega)
    obtain ⟨x, hx⟩ := h n (by omega)
    refine ⟨xs ++ [x], by simp [h1], fun j hj => ?_⟩
    rcases Nat.lt_or_ge j n with hlt | hge
    · rw [List.getD_eq_getElem?_getD, List.getElem?_append_left (by omega), ← List.getD_eq_getElem?_getD]
      exact h2 j hlt
    · have : j = n := by omega
      subst this
      rw [List.getD_eq_getElem?_getD, List.getElem?_append_right (by omega), h1]
      simpa using hx
theorem Rd.prx {w : World} {A : Option Addr} {ps : List Pr} (h : Rd kPr w A ps) : ∃ xs : List PrX, xs.length = ps.length ∧ (∀ j, j < ps.length → (xs.getD j prx0).p = ps.getD j pr0 ∧ PrIn w (xs.getD j prx0)) ∧ Rd fPrX.kn w A xs := by
  obtain ⟨xs, h1, h2⟩ := ex_list prx0 (fun j x => (x.p = ps.getD j pr0 ∧ PrIn w x) ∧ ∀ i u, (fPrX.enc x)[i]? = some u → w.cell? ((adr A).add (j * 7 + i)) = some u) ps.length fun j hj => by
    obtain ⟨cs, ⟨R, c, B, k, rfl, hl, h3, h4⟩, h5⟩ := h.el j _ (List.getElem?_eq_getElem hj)
    have he : ps.getD j pr0 = ps[j] := by rw [List.getD_eq_getElem?_getD, List.getElem?_eq_getElem hj]; rfl
    exact ⟨⟨ps[j], R, c, B, k⟩, ⟨he.symm, hl, h3, h4⟩, h5⟩
  refine ⟨xs, h1, fun j hj => (h2 j hj).1, ⟨fun h3 => h.ad (by omega), fun j x hx => ?_⟩⟩
  have hj : j < ps.length := by rw [← h1]; exact (List.getElem?_eq_some_iff.1 hx).1
  have h3 := (h2 j hj).2
  rw [List.getD_eq_getElem?_getD, hx] at h3
  exact ⟨_, rfl, h3⟩
theorem Rd.ofPrx {w : World} {A : Option Addr} {ps : List Pr} {xs : List PrX} (hl : xs.length = ps.length) (h : Rd fPrX.kn w A xs) (hi : ∀ j, j < ps.length → (xs.getD j prx0).p = ps.getD j pr0 ∧ PrIn w (xs.getD j prx0)) : Rd kPr w A ps := ⟨fun h3 => h.ad (by omega), fun j p hp => by
  have hj : j < ps.length := (List.getElem?_eq_some_iff.1 hp).1
  have hj2 : j < xs.length := by omega
  obtain ⟨h1, h2, h3, h4⟩ := hi j hj
  obtain ⟨cs, rfl, h5⟩ := h.el j _ (List.getElem?_eq_getElem hj2)
  have he : xs.getD j prx0 = xs[j] := by rw [List.getD_eq_getElem?_getD, List.getElem?_eq_getElem hj2]; rfl
  have hpe : ps.getD j pr0 = p := by rw [List.getD_eq_getElem?_getD, hp]; rfl
  rw [he] at h1 h2 h3 h4
  rw [hpe] at h1
  subst h1
  exact ⟨_, ⟨_, _, _, _, rfl, h2, h3, h4⟩, h5⟩⟩
theorem splice_in (cur e vs : List Value) (B k : Nat) (he : (cur.drop B).take e.length = e) (hB : B + e.length ≤ cur.length) (hk : k + vs.length ≤ e.length) : cur.take (B + k) ++ vs ++ cur.drop (B + k + vs.length) = cur.take B ++ (e.take k ++ vs ++ e.drop (k + vs.length)) ++ cur.drop (B + e.length) := by
  have h1 : cur.drop B = e ++ cur.drop (B + e.length) := by
    have := List.take_append_drop e.length (cur.drop B)
    rw [he, List.drop_drop] at this
    exact this.symm
  have h2 : cur.take (B + k) = cur.take B ++ e.take k := by
    rw [List.take_add, h1, List.take_append_of_le_length (by omega)]
  have h3 : cur.drop (B + k + vs.length) = e.drop (k + vs.length) ++ cur.drop (B + e.length) := by
    rw [Nat.add_assoc, ← List.drop_drop, h1, List.drop_append_of_le_length hk]
  rw [h2, h3]
  simp only [List.append_assoc]
section
variable {α : Type} {f : Fk α} {P : Program} {n : Nat} {Q : Post} {l : Fr} {w W0 : World} {L L' : List Ch} {ops : Array Oper} {rest : List Oper} {d : Nat} {x y : Operand} {ty t e : TypeId} {pos : String} {af : Array Edge} {v : Value} {xs : List α}
/-- A store of some cells of an element into a row of the call's own. -/
theorem wl_storeP {A : Option Addr} {m c k b : Nat} {i : Int} {x' : α} {vs : List Value} {z0 : α} (H : Holds W0 L w) (U : Upd L (Row f e (.slice A m c) xs) (Row f e (.slice A m c) (xs.set i.toNat x')) L') (hsz : ∀ W, (sizeOf t).run P W = .ok b W) (hx : ev l x = some (.pointer (some (((adr A).add (i.toNat * f.sz)).add k)))) (hy : ev l y = some v) (hc : v.cells = vs.toArray) (hb : vs.length = b) (h1 : ∀ u ∈ vs, u.oneCell' = true) (h0 : 0 ≤ i) (hi : i < xs.length) (hk : k + b ≤ f.sz)
    (he : (f.enc (xs.getD i.toNat z0)).take k ++ vs ++ (f.enc (xs.getD i.toNat z0)).drop (k + b) = f.enc x') (h : ∀ w', Holds W0 L' w' → wl P n ops rest Q l w') : wl P n ops (⟨none, .store t x y, ty, pos, af, none⟩ :: rest) Q l w := by
  subst hb
  obtain ⟨S, hS, ⟨hSv, hown⟩, hstep⟩ := H.upd U
  have hlt : i.toNat < xs.length := by omega
  have hm : m = xs.length := (rd_of_own hown).1
  subst hm
  rcases hown.2 with ⟨hnil, hz⟩ | ⟨g, cap, cur, hv, _, hh, hnc, hcm, hsz2, hcur⟩
  · omega
  · injection hv with hA _ hcap
    subst hA hcap
    have hfl := flat_len f xs
    have hcl : cur.toList.length = c * f.sz := by simpa using hsz2
    have hle : xs.length * f.sz ≤ cur.toList.length := by rw [hcl]; exact Nat.mul_le_mul_right _ hnc
    have hoff : i.toNat * f.sz + f.sz ≤ xs.length * f.sz := by rw [← Nat.succ_mul]; exact Nat.mul_le_mul_right _ hlt
    obtain ⟨w', hr, g1, g2, g3, g4, g5, g6⟩ := run_storeCells_blk (P := P) (b := g) (t := e) (off := i.toNat * f.sz + k) vs 0 w cur.toList _ (by simpa using hh) (put_splice cur.toList _ _ (by omega)) h1
    have hel : ∀ j : Nat, j < f.sz → cur.toList[i.toNat * f.sz + j]? = (f.enc (xs.getD i.toNat z0))[j]? := fun j hj => by
      have e1 : (xs.flatMap f.enc)[i.toNat * f.sz + j]? = cur.toList[i.toNat * f.sz + j]? := by rw [← hcur, List.getElem?_take_of_lt (by omega)]
      have e0 : xs[i.toNat]? = some (xs.getD i.toNat z0) := by rw [List.getD_eq_getElem?_getD, List.getElem?_eq_getElem hlt]; rfl
      have hjl : j < (f.enc (xs.getD i.toNat z0)).length := by rw [f.len]; exact hj
      have e2 := flat_get f xs i.toNat _ e0 j _ (List.getElem?_eq_getElem hjl)
      rw [← e1, e2, List.getElem?_eq_getElem hjl]
    have hen : (cur.toList.drop (i.toNat * f.sz)).take (f.enc (xs.getD i.toNat z0)).length = f.enc (xs.getD i.toNat z0) := by
      apply List.ext_getElem?
      intro j
      rcases Nat.lt_or_ge j f.sz with hj | hj
      · rw [List.getElem?_take_of_lt (by rw [f.len]; exact hj), List.getElem?_drop]
        exact hel j hj
      · rw [List.getElem?_eq_none (by rw [List.length_take, f.len]; omega), List.getElem?_eq_none (by rw [f.len]; exact hj)]
    have hsp := splice_in cur.toList (f.enc (xs.getD i.toNat z0)) vs (i.toNat * f.sz) k hen (by rw [f.len]; omega) (by rw [f.len]; exact hk)
    rw [he, f.len] at hsp
    refine wl_s (w' := w') rfl rfl (fun a ha => ?_) (h w' (hstep w' S g4 g5 g6 (by omega) (fun q hq hn => g2 q (fun e => hn (e ▸ hSv g (by simp [Value.ownBlock])))) (fun q hq => .inl hq) ⟨hSv, ?_⟩))
    · simp [execOp, ha.eval hx, ha.eval hy, Instr.storeAt, Instr.sureAddr, storeVar, hsz, hc, adr, Addr.add_lit, hr]
    · rw [Nat.add_zero, hsp] at g1
      refine ⟨by rw [flat_len, List.length_set], .inr ⟨g, c, _, by rw [List.length_set], Nat.zero_le _, g1, by rw [List.length_set]; exact hnc, hcm, ?_, ?_⟩⟩
      · simp only [List.size_toArray, List.length_append, List.length_take, List.length_drop, f.len, hcl]
        rw [hcl] at hle
        omega
      · rw [List.length_set, ← flat_splice f xs i.toNat x' hlt, ← hcur]
        exact take_splice cur.toList (f.enc x') (i.toNat * f.sz) f.sz _ (f.len x') hoff hle
end
/-! ### what an action that is not used changes -/
def noP (p : Int) (x : DvP) (_ : Nat) : Prop := x.prod ≠ p
/-- An action in the place of a production's. -/
def Pl.act (g : Pl) (i : Nat) (a : Ac) : Pl := { g with prods := g.prods.set i { g.prods.getD i pr0 with act := a } }
section
variable {g : Pl} {i : Nat} {a : Ac} {row : List Int} {d : Dv}
theorem act_len : (g.act i a).prods.length = g.prods.length := List.length_set
theorem act_get (hi : i < g.prods.length) (j : Nat) : (g.act i a).prods.getD j pr0 = if j = i then { g.prods.getD i pr0 with act := a } else g.prods.getD j pr0 := by
  unfold Pl.act
  rw [List.getD_eq_getElem?_getD, List.getElem?_set]
  by_cases h : i = j
  · subst h
    rw [if_pos rfl, if_pos hi, if_pos rfl]
    rfl
  · rw [if_neg h, if_neg (fun e => h e.symm), List.getD_eq_getElem?_getD]
theorem act_lr (hi : i < g.prods.length) (j : Nat) : ((g.act i a).prods.getD j pr0).left = (g.prods.getD j pr0).left ∧ ((g.act i a).prods.getD j pr0).right = (g.prods.getD j pr0).right := by
  rw [act_get hi]
  split
  · rename_i h
    subst h
    exact ⟨rfl, rfl⟩
  · exact ⟨rfl, rfl⟩
theorem act_fit (hi : i < g.prods.length) (x : DvP) (k : Nat) (s : Int) : nodeFit (g.act i a) x k s ↔ nodeFit g x k s := by
  unfold nodeFit
  rw [act_len, (act_lr hi _).1, (act_lr hi _).2]
  exact Iff.rfl
mutual
theorem act_shp (hi : i < g.prods.length) : ∀ (d : Dv) (x : Int) (at_ : Nat), shp (g.act i a) row d x at_ = shp g row d x at_
  | .mk y kids, x, at_ => by
    rw [shp_eq, shp_eq, dec_iff (act_fit hi _ _ _), (act_lr hi _).2]
    have := act_shps hi kids
    show (if x < g.kinds.length then _ else if _ then shps (g.act i a) row kids _ at_ else none) = _
    rw [this]
    rfl
theorem act_shps (hi : i < g.prods.length) : ∀ (ds : List Dv) (l : List Int) (at_ : Nat), shps (g.act i a) row ds l at_ = shps g row ds l at_
  | [], l, at_ => by rw [shps_nil, shps_nil]
  | k :: r, l, at_ => by
    rw [shps_cons, shps_cons, act_shp hi k]
    congr 1
    funext q
    exact act_shps hi r l.tail q
end
theorem act_drv (hi : i < g.prods.length) (h1 : GOk g) (h2 : GOk (g.act i a)) : DrvOk (g.act i a) d row ↔ DrvOk g d row := by
  unfold DrvOk
  rw [act_shp hi]
  exact ⟨fun h => ⟨h1, h.2⟩, fun h => ⟨h2, h.2⟩⟩
theorem act_val (hi : i < g.prods.length) : ∀ d : Dv, d.All (noP i) → valD (g.act i a) d = valD g d := Tr.ind fun x kids ih h => by
  obtain ⟨h1, h2⟩ := (Tr.All_eq (.mk x kids)).1 h
  have h1' : x.prod ≠ i := h1
  have hk : kids.map (valD (g.act i a)) = kids.map (valD g) := List.map_congr_left fun t ht => ih t ht ((Tr.Alls_iff _).1 h2 t ht)
  by_cases hx : x.prod < 0
  · rw [valD_leaf (d := .mk x kids) hx, valD_leaf (d := .mk x kids) hx]
  · rw [valD_node (d := .mk x kids) hx, valD_node (d := .mk x kids) hx]
    show actV (kids.map _) ((g.act i a).prods.getD x.prod.toNat pr0).act = actV (kids.map _) (g.prods.getD x.prod.toNat pr0).act
    rw [hk, act_get hi, if_neg (by omega)]
theorem valE_not (h : valE g d row ≠ 130) : GOk g := Classical.byContradiction fun h2 => h (valE_plain h2).1
/-- The law. -/
theorem act_same (hi : i < g.prods.length) (hd : d.All (noP i)) (h1 : valE g d row ≠ 130) (h2 : valE (g.act i a) d row ≠ 130) : valE (g.act i a) d row = valE g d row ∧ valR (g.act i a) d row = valR g d row := by
  have k1 := valE_not h1
  have k2 := valE_not h2
  have hv := act_val (a := a) hi d hd
  by_cases hD : DrvOk g d row
  · have hD2 := (act_drv (a := a) hi k1 k2).2 hD
    by_cases hc : (valD g d).cnt ≤ 65536
    · rw [(valE_ok hD hc).1, (valE_ok hD hc).2, (valE_ok hD2 (by rw [hv]; exact hc)).1, (valE_ok hD2 (by rw [hv]; exact hc)).2, hv]
      exact ⟨rfl, rfl⟩
    · rw [(valE_many hD hc).1, (valE_many hD hc).2, (valE_many hD2 (by rw [hv]; exact hc)).1, (valE_many hD2 (by rw [hv]; exact hc)).2]
      exact ⟨rfl, rfl⟩
  · have hD2 : ¬ DrvOk (g.act i a) d row := fun h => hD ((act_drv hi k1 k2).1 h)
    rw [(valE_none k1 hD).1, (valE_none k1 hD).2, (valE_none k2 hD2).1, (valE_none k2 hD2).2]
    exact ⟨rfl, rfl⟩
theorem act_ok (hg : g.ok) (hi : i < g.prods.length) (ha : a.cnt ≤ 1099511627776) : (g.act i a).ok := ⟨hg.k, hg.ks, hg.p, hg.r, hg.rs, by rw [act_len]; exact hg.q, fun p hp => by
    rcases List.mem_or_eq_of_mem_set hp with h | h
    · exact hg.qr p h
    · rw [h]; show (g.prods.getD i pr0).right.length ≤ _; exact hg.qr _ (getD_mem hi), fun p hp => by
    rcases List.mem_or_eq_of_mem_set hp with h | h
    · exact hg.qa p h
    · rw [h]; exact ha⟩
/-- The other row, read. -/
theorem act_rd {w : World} {A B : Option Addr} {k : Nat} {xs : List PrX} (hi : i < g.prods.length) (hl : xs.length = g.prods.length) (hx : ∀ j, j < g.prods.length → (xs.getD j prx0).p = g.prods.getD j pr0 ∧ PrIn w (xs.getD j prx0)) (hk : a.kids.length ≤ k) (ha : Rd (kTr fAc) w B a.kids) (h : Rd fPrX.kn w A (xs.set i ⟨{ g.prods.getD i pr0 with act := a }, (xs.getD i prx0).r, (xs.getD i prx0).c, B, k⟩)) : Rd kPr w A (g.act i a).prods := by
  refine Rd.ofPrx (by rw [List.length_set, act_len]; exact hl) h fun j hj => ?_
  rw [act_len] at hj
  rw [act_get hi, List.getD_eq_getElem?_getD, List.getElem?_set]
  by_cases hij : i = j
  · subst hij
    rw [if_pos rfl, if_pos (by omega), if_pos rfl]
    obtain ⟨h1, ⟨h2, _⟩, h3, _⟩ := hx i hi
    refine ⟨rfl, ⟨?_, hk⟩, ?_, ha⟩
    · rw [← h1]; exact h2
    · show Rd (kInt .i64) w (xs.getD i prx0).r (g.prods.getD i pr0).right
      rw [← h1]; exact h3
  · rw [if_neg hij, if_neg (fun e => hij e.symm), ← List.getD_eq_getElem?_getD]
    exact hx j hj
end
theorem rem_lt {p n : Int} (hn : 0 < n) : -n < Int.tmod p n ∧ Int.tmod p n < n := ⟨Int.lt_tmod_of_pos p hn, Int.tmod_lt_of_pos p hn⟩
theorem rem_nn {p n : Int} (hp : 0 ≤ p) : 0 ≤ Int.tmod p n := Int.tmod_nonneg n hp
end Go.Proofs.YtgdemplcpcacaaaFx
