/- A node's type: the program's answer. The functions answer on the grammar of one production. -/
import Derived.Test.YtgdemplcpcacaaaProg
import Derived.Test.YtgdemplcpcacaaaK12
import Derived.Test.YtgdemplcpcacaaaK03
import Derived.Test.YtgdemplcpcacaaaK06
import Derived.Test.YtgdemplcpcacaaaK11
set_option linter.unusedVariables false
set_option linter.unusedSimpArgs false
/-! A node's type: the program's answer. -/
namespace Go.Proofs.Ytgdemplcpcacaaa.PTyped
open Go Go.RowKit Go.Proofs.YtgdemplcpcacaaaFx Go.Proofs.Ytgdemplcpcacaaa.NameW Go.Proofs.Ytgdemplcpcacaaa.KindsW Go.Proofs.Ytgdemplcpcacaaa.KnownD Go.Proofs.Ytgdemplcpcacaaa.TypD
theorem agg24 : Agg Try.prog 24 4 := agg_of Try.underlying24 (by kernel_rfl)
theorem en48 : Enters Try.prog 48 := enters Try.func48 (by kernel_rfl) rfl
theorem en53 : Enters Try.prog 53 := enters Try.func53 (by kernel_rfl) rfl
theorem fa126_1 : FieldAt Try.prog 126 1 1 := field_at (sz := 0) Try.underlying126 rfl (by kernel_rfl) rfl
theorem fa126_2 : FieldAt Try.prog 126 2 2 := field_at (sz := 0) Try.underlying126 rfl (by kernel_rfl) rfl
theorem fa24_0 : FieldAt Try.prog 24 0 0 := field_at (sz := 0) Try.underlying24 rfl (by kernel_rfl) rfl
theorem fa24_1 : FieldAt Try.prog 24 1 1 := field_at (sz := 0) Try.underlying24 rfl (by kernel_rfl) rfl
theorem fa24_2 : FieldAt Try.prog 24 2 2 := field_at (sz := 0) Try.underlying24 rfl (by kernel_rfl) rfl
theorem fa24_3 : FieldAt Try.prog 24 3 3 := field_at (sz := 0) Try.underlying24 rfl (by kernel_rfl) rfl
theorem fa80_1 : FieldAt Try.prog 80 1 1 := field_at (sz := 0) Try.underlying80 rfl (by kernel_rfl) rfl
theorem mixed : Try.prog.follows .mixedOrders = true := by kernel_rfl
theorem one123 : One Try.prog 123 := one_of Try.underlying123 rfl (by kernel_rfl)
theorem one124 : One Try.prog 124 := one_of Try.underlying124 rfl (by kernel_rfl)
theorem one22 : One Try.prog 22 := one_of Try.underlying22 rfl (by kernel_rfl)
theorem one3 : One Try.prog 3 := one_of Try.underlying3 rfl (by kernel_rfl)
theorem one40 : One Try.prog 40 := one_of Try.underlying40 rfl (by kernel_rfl)
theorem one9 : One Try.prog 9 := one_of Try.underlying9 rfl (by kernel_rfl)
theorem sz24 : ∀ W, (sizeOf 24).run Try.prog W = .ok 4 W := size_of (by kernel_rfl)
theorem sz80 : ∀ W, (sizeOf 80).run Try.prog W = .ok 2 W := size_of (by kernel_rfl)
theorem sz9 : ∀ W, (sizeOf 9).run Try.prog W = .ok 1 W := size_of (by kernel_rfl)
theorem zv24 : ∀ W, (zeroValue 24).run Try.prog W = .ok (.agg #[.int .i64 0, .string ⟨#[]⟩, .int .i64 0, .slice none 0 0]) W := zero_of (by kernel_rfl)
theorem zv80 : ∀ W, (zeroValue 80).run Try.prog W = .ok (.agg #[.string ⟨#[]⟩, .slice none 0 0]) W := zero_of (by kernel_rfl)
theorem zv9 : ∀ W, (zeroValue 9).run Try.prog W = .ok (.string ⟨#[]⟩) W := zero_of (by kernel_rfl)

def ValDOk (P : List (ByteArray × Ct)) (t : Nd) : Prop := ∀ (w : World) (B : Option Addr) (k bd b0 b1 b2 : Nat) (ns : List ByteArray) (name : ByteArray) (fC : ByteArray → Option Value) (hds : DsR w bd b0 b1 b2 ns P fC) (hr : Rd (kTr fNd) w B t.kids) (hf : t.All smallN), Calls Try.prog 53 #[.pointer (some ⟨bd, 0, none⟩), .agg #[.int .i64 t.x.kind, .string t.x.name, .int .i64 t.x.tok, .slice B t.kids.length k], .string name] w fun e w' => ∃ v, e = .returned v ∧ v = .bool (dec (fitN P t name)) ∧ Holds w [] w'

set_option maxHeartbeats 6400000 in
set_option maxRecDepth 100000 in
theorem dvalue_step {P : List (ByteArray × Ct)} {t : Nd} {w : World} {B : Option Addr} {k bd b0 b1 b2 : Nat} {ns : List ByteArray} {name : ByteArray} {fC : ByteArray → Option Value} (hds : DsR w bd b0 b1 b2 ns P fC) (hr : Rd (kTr fNd) w B t.kids) (hf : t.All smallN) (ih : ∀ t' ∈ t.kids, ValDOk P t') : Calls Try.prog 53 #[.pointer (some ⟨bd, 0, none⟩), .agg #[.int .i64 t.x.kind, .string t.x.name, .int .i64 t.x.tok, .slice B t.kids.length k], .string name] w fun e w' => ∃ v, e = .returned v ∧ v = .bool (dec (fitN P t name)) ∧ Holds w [] w' := by
  obtain ⟨⟨hsz, hkk⟩, hks⟩ := (Tr.All_eq t).1 hf
  have hdc := hds.c
  have hC := hds.r
  obtain ⟨N1, S1, hM1⟩ := hds.m1
  obtain ⟨N2, S2, hM2⟩ := hds.m2
  refine calls_of Try.func53 rfl Try.ntmps53 rfl ?_
  have H := Holds.start w
  refine wcR ?_
  refine wl_box (cs := [_, _, _, _]) H rfl rfl rfl ?_
  intro b4 w1 hb4 H2
  refine wA ?_
  refine wl_nil ?_
  refine wc_seq ?_
  refine wcR ?_
  refine wV (v_fb (o2 := 0) fa24_0 rfl rfl) ?_
  refine wV (v_load one3 rfl (H2.at (by repeat constructor) rfl)) ?_
  refine wl_nil ?_
  refine wc_block ?_
  refine wcR ?_
  refine wV (v_eql rfl rfl) ?_
  refine wA ?_
  refine wl_nil ?_
  refine wc_cond rfl (fun c0 => ?_) (fun c0 => ?_)
  ·have c0p := oT c0
   refine wcR ?_
   refine wM ?_
   refine wV (v_eqls rfl rfl) ?_
   refine wM ?_
   refine wl_guard rfl rfl rfl (fun g17 => ?_) (fun g17 => ?_)
   rotate_left
   ·have g17p := oF g17
    refine wF g17 ?_
    refine wF g17 ?_
    refine wV (v_pick_f rfl g17 rfl) ?_
    refine wM ?_
    refine wF rfl ?_
    refine wF rfl ?_
    refine wF rfl ?_
    refine wV (v_pick_f rfl rfl rfl) ?_
    refine wM ?_
    refine wF rfl ?_
    refine wF rfl ?_
    refine wF rfl ?_
    refine wF rfl ?_
    refine wV (v_pick_f rfl rfl rfl) ?_
    refine wA ?_
    refine wl_nil ?_
    refine wc_ret ?_
    first
      | (have q_ := c0p
         first
           | exact ⟨_, res1 rfl rfl, congrArg Value.bool (dec_eq ⟨fun hd => (fit0 c0p).2 ⟨g17p, g22p, by omega, by (have h_ := oT hd; omega)⟩, fun hh => decide_eq_true (by have h_ := (fit0 c0p).1 hh; omega)⟩), H2.pm (Pm.nil _)⟩
           | exact ⟨_, res1 rfl rfl, congrArg Value.bool (dec_f fun hh => by (have h_ := (fit0 c0p).1 hh; first | omega | exact g17p h_.1 | exact g22p h_.2.1)).symm, H2.pm (Pm.nil _)⟩)
      | (have q_ := c1p
         first
           | exact ⟨_, res1 rfl rfl, congrArg Value.bool (dec_eq ⟨fun hd => (fit1 c1p).2 ⟨g37p, by omega, g47p, by (have h_ := oT hd; omega)⟩, fun hh => decide_eq_true (by have h_ := (fit1 c1p).1 hh; omega)⟩), H2.pm (Pm.nil _)⟩
           | exact ⟨_, res1 rfl rfl, congrArg Value.bool (dec_f fun hh => by (have h_ := (fit1 c1p).1 hh; first | omega | exact g37p h_.1 | exact g47p h_.2.2.1)).symm, H2.pm (Pm.nil _)⟩)
      | (have q_ := c2p
         first
           | exact ⟨_, res1 rfl rfl, congrArg Value.bool (dec_eq ⟨fun hd => (fit2 c2p).2 ⟨g57p, by omega, by (have h_ := oT hd; omega)⟩, fun hh => decide_eq_true (by have h_ := (fit2 c2p).1 hh; omega)⟩), H2.pm (Pm.nil _)⟩
           | exact ⟨_, res1 rfl rfl, congrArg Value.bool (dec_f fun hh => by (have h_ := (fit2 c2p).1 hh; first | omega | exact g57p h_.1 | exact g57p h_.1)).symm, H2.pm (Pm.nil _)⟩)
      | exact ⟨_, res1 rfl rfl, congrArg Value.bool (dec_f (fitx c0p c1p c2p c3p)).symm, H2.pm (Pm.nil _)⟩
      | (have q_ := c6p
         exact ⟨_, res1 rfl rfl, congrArg Value.bool (dec_f fun hh => of_ndec (of_n_t c6) ((fitNs_iff _ _).1 ((fit3_f c3p hp).1 hh).2.2.2 i hin)).symm, H2.pm (Pm.nil _)⟩)
      | (have q_ := c5p
         exact ⟨_, res1 rfl rfl, congrArg Value.bool (dec_t ((fit3_f c3p hp).2 ⟨g93p, by omega, by omega, (fitNs_iff _ _).2 fun j hj => ha j (by omega)⟩)).symm, H2.pm (Pm.nil _)⟩)
      | (exact ⟨_, res1 rfl rfl, congrArg Value.bool (dec_f fun hh => by
           obtain ⟨p, hp, h1_, h2_, h3_, _⟩ := (fit3 c3p).1 hh
           first
             | (have h_ := hq4.symm.trans g82p; rw [hp] at h_; cases h_; done)
             | (rw [ofF_get hp] at g93p; exact g93p h1_)
             | omega
             | (have h_ := hq5 p hp; rw [h_] at c4p; omega)).symm, H2.pm (Pm.nil _)⟩)
   have g17p := oT g17
   refine wV (v_fb (o2 := 1) fa24_1 rfl rfl) ?_
   refine wO g17 ?_
   refine wV (v_load one9 rfl (H2.at (by repeat constructor) rfl)) ?_
   refine wO g17 ?_
   refine wV (v_eqls rfl rfl) ?_
   refine wV (v_pick_t rfl g17 rfl) ?_
   refine wM ?_
   refine wl_guard rfl rfl rfl (fun g22 => ?_) (fun g22 => ?_)
   rotate_left
   ·have g22p := oF g22
    refine wF g22 ?_
    refine wF g22 ?_
    refine wV (v_pick_f rfl g22 rfl) ?_
    refine wM ?_
    refine wF rfl ?_
    refine wF rfl ?_
    refine wF rfl ?_
    refine wF rfl ?_
    refine wV (v_pick_f rfl rfl rfl) ?_
    refine wA ?_
    refine wl_nil ?_
    refine wc_ret ?_
    first
      | (have q_ := c0p
         first
           | exact ⟨_, res1 rfl rfl, congrArg Value.bool (dec_eq ⟨fun hd => (fit0 c0p).2 ⟨g17p, g22p, by omega, by (have h_ := oT hd; omega)⟩, fun hh => decide_eq_true (by have h_ := (fit0 c0p).1 hh; omega)⟩), H2.pm (Pm.nil _)⟩
           | exact ⟨_, res1 rfl rfl, congrArg Value.bool (dec_f fun hh => by (have h_ := (fit0 c0p).1 hh; first | omega | exact g17p h_.1 | exact g22p h_.2.1)).symm, H2.pm (Pm.nil _)⟩)
      | (have q_ := c1p
         first
           | exact ⟨_, res1 rfl rfl, congrArg Value.bool (dec_eq ⟨fun hd => (fit1 c1p).2 ⟨g37p, by omega, g47p, by (have h_ := oT hd; omega)⟩, fun hh => decide_eq_true (by have h_ := (fit1 c1p).1 hh; omega)⟩), H2.pm (Pm.nil _)⟩
           | exact ⟨_, res1 rfl rfl, congrArg Value.bool (dec_f fun hh => by (have h_ := (fit1 c1p).1 hh; first | omega | exact g37p h_.1 | exact g47p h_.2.2.1)).symm, H2.pm (Pm.nil _)⟩)
      | (have q_ := c2p
         first
           | exact ⟨_, res1 rfl rfl, congrArg Value.bool (dec_eq ⟨fun hd => (fit2 c2p).2 ⟨g57p, by omega, by (have h_ := oT hd; omega)⟩, fun hh => decide_eq_true (by have h_ := (fit2 c2p).1 hh; omega)⟩), H2.pm (Pm.nil _)⟩
           | exact ⟨_, res1 rfl rfl, congrArg Value.bool (dec_f fun hh => by (have h_ := (fit2 c2p).1 hh; first | omega | exact g57p h_.1 | exact g57p h_.1)).symm, H2.pm (Pm.nil _)⟩)
      | exact ⟨_, res1 rfl rfl, congrArg Value.bool (dec_f (fitx c0p c1p c2p c3p)).symm, H2.pm (Pm.nil _)⟩
      | (have q_ := c6p
         exact ⟨_, res1 rfl rfl, congrArg Value.bool (dec_f fun hh => of_ndec (of_n_t c6) ((fitNs_iff _ _).1 ((fit3_f c3p hp).1 hh).2.2.2 i hin)).symm, H2.pm (Pm.nil _)⟩)
      | (have q_ := c5p
         exact ⟨_, res1 rfl rfl, congrArg Value.bool (dec_t ((fit3_f c3p hp).2 ⟨g93p, by omega, by omega, (fitNs_iff _ _).2 fun j hj => ha j (by omega)⟩)).symm, H2.pm (Pm.nil _)⟩)
      | (exact ⟨_, res1 rfl rfl, congrArg Value.bool (dec_f fun hh => by
           obtain ⟨p, hp, h1_, h2_, h3_, _⟩ := (fit3 c3p).1 hh
           first
             | (have h_ := hq4.symm.trans g82p; rw [hp] at h_; cases h_; done)
             | (rw [ofF_get hp] at g93p; exact g93p h1_)
             | omega
             | (have h_ := hq5 p hp; rw [h_] at c4p; omega)).symm, H2.pm (Pm.nil _)⟩)
   have g22p := oT g22
   refine wV (v_fb (o2 := 2) fa24_2 rfl rfl) ?_
   refine wO g22 ?_
   refine wV (v_load one3 rfl (H2.at (by repeat constructor) rfl)) ?_
   refine wO g22 ?_
   refine wV (v_eql rfl rfl) ?_
   refine wV (v_pick_t rfl g22 rfl) ?_
   refine wM ?_
   refine wl_guard rfl rfl rfl (fun g27 => ?_) (fun g27 => ?_)
   rotate_left
   ·have g27p := oF g27
    refine wF g27 ?_
    refine wF g27 ?_
    refine wF g27 ?_
    refine wV (v_pick_f rfl g27 rfl) ?_
    refine wA ?_
    refine wl_nil ?_
    refine wc_ret ?_
    first
      | (have q_ := c0p
         first
           | exact ⟨_, res1 rfl rfl, congrArg Value.bool (dec_eq ⟨fun hd => (fit0 c0p).2 ⟨g17p, g22p, by omega, by (have h_ := oT hd; omega)⟩, fun hh => decide_eq_true (by have h_ := (fit0 c0p).1 hh; omega)⟩), H2.pm (Pm.nil _)⟩
           | exact ⟨_, res1 rfl rfl, congrArg Value.bool (dec_f fun hh => by (have h_ := (fit0 c0p).1 hh; first | omega | exact g17p h_.1 | exact g22p h_.2.1)).symm, H2.pm (Pm.nil _)⟩)
      | (have q_ := c1p
         first
           | exact ⟨_, res1 rfl rfl, congrArg Value.bool (dec_eq ⟨fun hd => (fit1 c1p).2 ⟨g37p, by omega, g47p, by (have h_ := oT hd; omega)⟩, fun hh => decide_eq_true (by have h_ := (fit1 c1p).1 hh; omega)⟩), H2.pm (Pm.nil _)⟩
           | exact ⟨_, res1 rfl rfl, congrArg Value.bool (dec_f fun hh => by (have h_ := (fit1 c1p).1 hh; first | omega | exact g37p h_.1 | exact g47p h_.2.2.1)).symm, H2.pm (Pm.nil _)⟩)
      | (have q_ := c2p
         first
           | exact ⟨_, res1 rfl rfl, congrArg Value.bool (dec_eq ⟨fun hd => (fit2 c2p).2 ⟨g57p, by omega, by (have h_ := oT hd; omega)⟩, fun hh => decide_eq_true (by have h_ := (fit2 c2p).1 hh; omega)⟩), H2.pm (Pm.nil _)⟩
           | exact ⟨_, res1 rfl rfl, congrArg Value.bool (dec_f fun hh => by (have h_ := (fit2 c2p).1 hh; first | omega | exact g57p h_.1 | exact g57p h_.1)).symm, H2.pm (Pm.nil _)⟩)
      | exact ⟨_, res1 rfl rfl, congrArg Value.bool (dec_f (fitx c0p c1p c2p c3p)).symm, H2.pm (Pm.nil _)⟩
      | (have q_ := c6p
         exact ⟨_, res1 rfl rfl, congrArg Value.bool (dec_f fun hh => of_ndec (of_n_t c6) ((fitNs_iff _ _).1 ((fit3_f c3p hp).1 hh).2.2.2 i hin)).symm, H2.pm (Pm.nil _)⟩)
      | (have q_ := c5p
         exact ⟨_, res1 rfl rfl, congrArg Value.bool (dec_t ((fit3_f c3p hp).2 ⟨g93p, by omega, by omega, (fitNs_iff _ _).2 fun j hj => ha j (by omega)⟩)).symm, H2.pm (Pm.nil _)⟩)
      | (exact ⟨_, res1 rfl rfl, congrArg Value.bool (dec_f fun hh => by
           obtain ⟨p, hp, h1_, h2_, h3_, _⟩ := (fit3 c3p).1 hh
           first
             | (have h_ := hq4.symm.trans g82p; rw [hp] at h_; cases h_; done)
             | (rw [ofF_get hp] at g93p; exact g93p h1_)
             | omega
             | (have h_ := hq5 p hp; rw [h_] at c4p; omega)).symm, H2.pm (Pm.nil _)⟩)
   have g27p := oT g27
   refine wV (v_fb (o2 := 3) fa24_3 rfl rfl) ?_
   refine wO g27 ?_
   refine wV (v_load one22 rfl (H2.at (by repeat constructor) rfl)) ?_
   refine wO g27 ?_
   refine wV (v_len Try.underlying22 rfl) ?_
   refine wO g27 ?_
   refine wV (v_eql rfl rfl) ?_
   refine wV (v_pick_t rfl g27 rfl) ?_
   refine wA ?_
   refine wl_nil ?_
   refine wc_ret ?_
   first
     | (have q_ := c0p
        first
          | exact ⟨_, res1 rfl rfl, congrArg Value.bool (dec_eq ⟨fun hd => (fit0 c0p).2 ⟨g17p, g22p, by omega, by (have h_ := oT hd; omega)⟩, fun hh => decide_eq_true (by have h_ := (fit0 c0p).1 hh; omega)⟩), H2.pm (Pm.nil _)⟩
          | exact ⟨_, res1 rfl rfl, congrArg Value.bool (dec_f fun hh => by (have h_ := (fit0 c0p).1 hh; first | omega | exact g17p h_.1 | exact g22p h_.2.1)).symm, H2.pm (Pm.nil _)⟩)
     | (have q_ := c1p
        first
          | exact ⟨_, res1 rfl rfl, congrArg Value.bool (dec_eq ⟨fun hd => (fit1 c1p).2 ⟨g37p, by omega, g47p, by (have h_ := oT hd; omega)⟩, fun hh => decide_eq_true (by have h_ := (fit1 c1p).1 hh; omega)⟩), H2.pm (Pm.nil _)⟩
          | exact ⟨_, res1 rfl rfl, congrArg Value.bool (dec_f fun hh => by (have h_ := (fit1 c1p).1 hh; first | omega | exact g37p h_.1 | exact g47p h_.2.2.1)).symm, H2.pm (Pm.nil _)⟩)
     | (have q_ := c2p
        first
          | exact ⟨_, res1 rfl rfl, congrArg Value.bool (dec_eq ⟨fun hd => (fit2 c2p).2 ⟨g57p, by omega, by (have h_ := oT hd; omega)⟩, fun hh => decide_eq_true (by have h_ := (fit2 c2p).1 hh; omega)⟩), H2.pm (Pm.nil _)⟩
          | exact ⟨_, res1 rfl rfl, congrArg Value.bool (dec_f fun hh => by (have h_ := (fit2 c2p).1 hh; first | omega | exact g57p h_.1 | exact g57p h_.1)).symm, H2.pm (Pm.nil _)⟩)
     | exact ⟨_, res1 rfl rfl, congrArg Value.bool (dec_f (fitx c0p c1p c2p c3p)).symm, H2.pm (Pm.nil _)⟩
     | (have q_ := c6p
        exact ⟨_, res1 rfl rfl, congrArg Value.bool (dec_f fun hh => of_ndec (of_n_t c6) ((fitNs_iff _ _).1 ((fit3_f c3p hp).1 hh).2.2.2 i hin)).symm, H2.pm (Pm.nil _)⟩)
     | (have q_ := c5p
        exact ⟨_, res1 rfl rfl, congrArg Value.bool (dec_t ((fit3_f c3p hp).2 ⟨g93p, by omega, by omega, (fitNs_iff _ _).2 fun j hj => ha j (by omega)⟩)).symm, H2.pm (Pm.nil _)⟩)
     | (exact ⟨_, res1 rfl rfl, congrArg Value.bool (dec_f fun hh => by
          obtain ⟨p, hp, h1_, h2_, h3_, _⟩ := (fit3 c3p).1 hh
          first
            | (have h_ := hq4.symm.trans g82p; rw [hp] at h_; cases h_; done)
            | (rw [ofF_get hp] at g93p; exact g93p h1_)
            | omega
            | (have h_ := hq5 p hp; rw [h_] at c4p; omega)).symm, H2.pm (Pm.nil _)⟩)
  have c0p := oF c0
  refine wcR ?_
  refine wV (v_eql rfl rfl) ?_
  refine wA ?_
  refine wl_nil ?_
  refine wc_cond rfl (fun c1 => ?_) (fun c1 => ?_)
  ·have c1p := oT c1
   refine wcR ?_
   refine wM ?_
   refine wV (v_eqls rfl rfl) ?_
   refine wM ?_
   refine wl_guard rfl rfl rfl (fun g37 => ?_) (fun g37 => ?_)
   rotate_left
   ·have g37p := oF g37
    refine wF g37 ?_
    refine wF g37 ?_
    refine wV (v_pick_f rfl g37 rfl) ?_
    refine wM ?_
    refine wF rfl ?_
    refine wF rfl ?_
    refine wF rfl ?_
    refine wV (v_pick_f rfl rfl rfl) ?_
    refine wM ?_
    refine wF rfl ?_
    refine wF rfl ?_
    refine wF rfl ?_
    refine wF rfl ?_
    refine wV (v_pick_f rfl rfl rfl) ?_
    refine wA ?_
    refine wl_nil ?_
    refine wc_ret ?_
    first
      | (have q_ := c0p
         first
           | exact ⟨_, res1 rfl rfl, congrArg Value.bool (dec_eq ⟨fun hd => (fit0 c0p).2 ⟨g17p, g22p, by omega, by (have h_ := oT hd; omega)⟩, fun hh => decide_eq_true (by have h_ := (fit0 c0p).1 hh; omega)⟩), H2.pm (Pm.nil _)⟩
           | exact ⟨_, res1 rfl rfl, congrArg Value.bool (dec_f fun hh => by (have h_ := (fit0 c0p).1 hh; first | omega | exact g17p h_.1 | exact g22p h_.2.1)).symm, H2.pm (Pm.nil _)⟩)
      | (have q_ := c1p
         first
           | exact ⟨_, res1 rfl rfl, congrArg Value.bool (dec_eq ⟨fun hd => (fit1 c1p).2 ⟨g37p, by omega, g47p, by (have h_ := oT hd; omega)⟩, fun hh => decide_eq_true (by have h_ := (fit1 c1p).1 hh; omega)⟩), H2.pm (Pm.nil _)⟩
           | exact ⟨_, res1 rfl rfl, congrArg Value.bool (dec_f fun hh => by (have h_ := (fit1 c1p).1 hh; first | omega | exact g37p h_.1 | exact g47p h_.2.2.1)).symm, H2.pm (Pm.nil _)⟩)
      | (have q_ := c2p
         first
           | exact ⟨_, res1 rfl rfl, congrArg Value.bool (dec_eq ⟨fun hd => (fit2 c2p).2 ⟨g57p, by omega, by (have h_ := oT hd; omega)⟩, fun hh => decide_eq_true (by have h_ := (fit2 c2p).1 hh; omega)⟩), H2.pm (Pm.nil _)⟩
           | exact ⟨_, res1 rfl rfl, congrArg Value.bool (dec_f fun hh => by (have h_ := (fit2 c2p).1 hh; first | omega | exact g57p h_.1 | exact g57p h_.1)).symm, H2.pm (Pm.nil _)⟩)
      | exact ⟨_, res1 rfl rfl, congrArg Value.bool (dec_f (fitx c0p c1p c2p c3p)).symm, H2.pm (Pm.nil _)⟩
      | (have q_ := c6p
         exact ⟨_, res1 rfl rfl, congrArg Value.bool (dec_f fun hh => of_ndec (of_n_t c6) ((fitNs_iff _ _).1 ((fit3_f c3p hp).1 hh).2.2.2 i hin)).symm, H2.pm (Pm.nil _)⟩)
      | (have q_ := c5p
         exact ⟨_, res1 rfl rfl, congrArg Value.bool (dec_t ((fit3_f c3p hp).2 ⟨g93p, by omega, by omega, (fitNs_iff _ _).2 fun j hj => ha j (by omega)⟩)).symm, H2.pm (Pm.nil _)⟩)
      | (exact ⟨_, res1 rfl rfl, congrArg Value.bool (dec_f fun hh => by
           obtain ⟨p, hp, h1_, h2_, h3_, _⟩ := (fit3 c3p).1 hh
           first
             | (have h_ := hq4.symm.trans g82p; rw [hp] at h_; cases h_; done)
             | (rw [ofF_get hp] at g93p; exact g93p h1_)
             | omega
             | (have h_ := hq5 p hp; rw [h_] at c4p; omega)).symm, H2.pm (Pm.nil _)⟩)
   have g37p := oT g37
   refine wV (v_fb (o2 := 2) fa24_2 rfl rfl) ?_
   refine wO g37 ?_
   refine wV (v_load one3 rfl (H2.at (by repeat constructor) rfl)) ?_
   refine wO g37 ?_
   refine wV (v_geq rfl rfl) ?_
   refine wV (v_pick_t rfl g37 rfl) ?_
   refine wM ?_
   refine wl_guard rfl rfl rfl (fun g42 => ?_) (fun g42 => ?_)
   rotate_left
   ·have g42p := oF g42
    refine wF g42 ?_
    refine wF g42 ?_
    refine wV (v_pick_f rfl g42 rfl) ?_
    refine wM ?_
    refine wF rfl ?_
    refine wF rfl ?_
    refine wF rfl ?_
    refine wF rfl ?_
    refine wV (v_pick_f rfl rfl rfl) ?_
    refine wA ?_
    refine wl_nil ?_
    refine wc_ret ?_
    first
      | (have q_ := c0p
         first
           | exact ⟨_, res1 rfl rfl, congrArg Value.bool (dec_eq ⟨fun hd => (fit0 c0p).2 ⟨g17p, g22p, by omega, by (have h_ := oT hd; omega)⟩, fun hh => decide_eq_true (by have h_ := (fit0 c0p).1 hh; omega)⟩), H2.pm (Pm.nil _)⟩
           | exact ⟨_, res1 rfl rfl, congrArg Value.bool (dec_f fun hh => by (have h_ := (fit0 c0p).1 hh; first | omega | exact g17p h_.1 | exact g22p h_.2.1)).symm, H2.pm (Pm.nil _)⟩)
      | (have q_ := c1p
         first
           | exact ⟨_, res1 rfl rfl, congrArg Value.bool (dec_eq ⟨fun hd => (fit1 c1p).2 ⟨g37p, by omega, g47p, by (have h_ := oT hd; omega)⟩, fun hh => decide_eq_true (by have h_ := (fit1 c1p).1 hh; omega)⟩), H2.pm (Pm.nil _)⟩
           | exact ⟨_, res1 rfl rfl, congrArg Value.bool (dec_f fun hh => by (have h_ := (fit1 c1p).1 hh; first | omega | exact g37p h_.1 | exact g47p h_.2.2.1)).symm, H2.pm (Pm.nil _)⟩)
      | (have q_ := c2p
         first
           | exact ⟨_, res1 rfl rfl, congrArg Value.bool (dec_eq ⟨fun hd => (fit2 c2p).2 ⟨g57p, by omega, by (have h_ := oT hd; omega)⟩, fun hh => decide_eq_true (by have h_ := (fit2 c2p).1 hh; omega)⟩), H2.pm (Pm.nil _)⟩
           | exact ⟨_, res1 rfl rfl, congrArg Value.bool (dec_f fun hh => by (have h_ := (fit2 c2p).1 hh; first | omega | exact g57p h_.1 | exact g57p h_.1)).symm, H2.pm (Pm.nil _)⟩)
      | exact ⟨_, res1 rfl rfl, congrArg Value.bool (dec_f (fitx c0p c1p c2p c3p)).symm, H2.pm (Pm.nil _)⟩
      | (have q_ := c6p
         exact ⟨_, res1 rfl rfl, congrArg Value.bool (dec_f fun hh => of_ndec (of_n_t c6) ((fitNs_iff _ _).1 ((fit3_f c3p hp).1 hh).2.2.2 i hin)).symm, H2.pm (Pm.nil _)⟩)
      | (have q_ := c5p
         exact ⟨_, res1 rfl rfl, congrArg Value.bool (dec_t ((fit3_f c3p hp).2 ⟨g93p, by omega, by omega, (fitNs_iff _ _).2 fun j hj => ha j (by omega)⟩)).symm, H2.pm (Pm.nil _)⟩)
      | (exact ⟨_, res1 rfl rfl, congrArg Value.bool (dec_f fun hh => by
           obtain ⟨p, hp, h1_, h2_, h3_, _⟩ := (fit3 c3p).1 hh
           first
             | (have h_ := hq4.symm.trans g82p; rw [hp] at h_; cases h_; done)
             | (rw [ofF_get hp] at g93p; exact g93p h1_)
             | omega
             | (have h_ := hq5 p hp; rw [h_] at c4p; omega)).symm, H2.pm (Pm.nil _)⟩)
   have g42p := oT g42
   refine wV (v_fb (o2 := 1) fa24_1 rfl rfl) ?_
   refine wO g42 ?_
   refine wV (v_load one9 rfl (H2.at (by repeat constructor) rfl)) ?_
   refine wO g42 ?_
   refine wV (v_eqls rfl rfl) ?_
   refine wV (v_pick_t rfl g42 rfl) ?_
   refine wM ?_
   refine wl_guard rfl rfl rfl (fun g47 => ?_) (fun g47 => ?_)
   rotate_left
   ·have g47p := oF g47
    refine wF g47 ?_
    refine wF g47 ?_
    refine wF g47 ?_
    refine wV (v_pick_f rfl g47 rfl) ?_
    refine wA ?_
    refine wl_nil ?_
    refine wc_ret ?_
    first
      | (have q_ := c0p
         first
           | exact ⟨_, res1 rfl rfl, congrArg Value.bool (dec_eq ⟨fun hd => (fit0 c0p).2 ⟨g17p, g22p, by omega, by (have h_ := oT hd; omega)⟩, fun hh => decide_eq_true (by have h_ := (fit0 c0p).1 hh; omega)⟩), H2.pm (Pm.nil _)⟩
           | exact ⟨_, res1 rfl rfl, congrArg Value.bool (dec_f fun hh => by (have h_ := (fit0 c0p).1 hh; first | omega | exact g17p h_.1 | exact g22p h_.2.1)).symm, H2.pm (Pm.nil _)⟩)
      | (have q_ := c1p
         first
           | exact ⟨_, res1 rfl rfl, congrArg Value.bool (dec_eq ⟨fun hd => (fit1 c1p).2 ⟨g37p, by omega, g47p, by (have h_ := oT hd; omega)⟩, fun hh => decide_eq_true (by have h_ := (fit1 c1p).1 hh; omega)⟩), H2.pm (Pm.nil _)⟩
           | exact ⟨_, res1 rfl rfl, congrArg Value.bool (dec_f fun hh => by (have h_ := (fit1 c1p).1 hh; first | omega | exact g37p h_.1 | exact g47p h_.2.2.1)).symm, H2.pm (Pm.nil _)⟩)
      | (have q_ := c2p
         first
           | exact ⟨_, res1 rfl rfl, congrArg Value.bool (dec_eq ⟨fun hd => (fit2 c2p).2 ⟨g57p, by omega, by (have h_ := oT hd; omega)⟩, fun hh => decide_eq_true (by have h_ := (fit2 c2p).1 hh; omega)⟩), H2.pm (Pm.nil _)⟩
           | exact ⟨_, res1 rfl rfl, congrArg Value.bool (dec_f fun hh => by (have h_ := (fit2 c2p).1 hh; first | omega | exact g57p h_.1 | exact g57p h_.1)).symm, H2.pm (Pm.nil _)⟩)
      | exact ⟨_, res1 rfl rfl, congrArg Value.bool (dec_f (fitx c0p c1p c2p c3p)).symm, H2.pm (Pm.nil _)⟩
      | (have q_ := c6p
         exact ⟨_, res1 rfl rfl, congrArg Value.bool (dec_f fun hh => of_ndec (of_n_t c6) ((fitNs_iff _ _).1 ((fit3_f c3p hp).1 hh).2.2.2 i hin)).symm, H2.pm (Pm.nil _)⟩)
      | (have q_ := c5p
         exact ⟨_, res1 rfl rfl, congrArg Value.bool (dec_t ((fit3_f c3p hp).2 ⟨g93p, by omega, by omega, (fitNs_iff _ _).2 fun j hj => ha j (by omega)⟩)).symm, H2.pm (Pm.nil _)⟩)
      | (exact ⟨_, res1 rfl rfl, congrArg Value.bool (dec_f fun hh => by
           obtain ⟨p, hp, h1_, h2_, h3_, _⟩ := (fit3 c3p).1 hh
           first
             | (have h_ := hq4.symm.trans g82p; rw [hp] at h_; cases h_; done)
             | (rw [ofF_get hp] at g93p; exact g93p h1_)
             | omega
             | (have h_ := hq5 p hp; rw [h_] at c4p; omega)).symm, H2.pm (Pm.nil _)⟩)
   have g47p := oT g47
   refine wV (v_fb (o2 := 3) fa24_3 rfl rfl) ?_
   refine wO g47 ?_
   refine wV (v_load one22 rfl (H2.at (by repeat constructor) rfl)) ?_
   refine wO g47 ?_
   refine wV (v_len Try.underlying22 rfl) ?_
   refine wO g47 ?_
   refine wV (v_eql rfl rfl) ?_
   refine wV (v_pick_t rfl g47 rfl) ?_
   refine wA ?_
   refine wl_nil ?_
   refine wc_ret ?_
   first
     | (have q_ := c0p
        first
          | exact ⟨_, res1 rfl rfl, congrArg Value.bool (dec_eq ⟨fun hd => (fit0 c0p).2 ⟨g17p, g22p, by omega, by (have h_ := oT hd; omega)⟩, fun hh => decide_eq_true (by have h_ := (fit0 c0p).1 hh; omega)⟩), H2.pm (Pm.nil _)⟩
          | exact ⟨_, res1 rfl rfl, congrArg Value.bool (dec_f fun hh => by (have h_ := (fit0 c0p).1 hh; first | omega | exact g17p h_.1 | exact g22p h_.2.1)).symm, H2.pm (Pm.nil _)⟩)
     | (have q_ := c1p
        first
          | exact ⟨_, res1 rfl rfl, congrArg Value.bool (dec_eq ⟨fun hd => (fit1 c1p).2 ⟨g37p, by omega, g47p, by (have h_ := oT hd; omega)⟩, fun hh => decide_eq_true (by have h_ := (fit1 c1p).1 hh; omega)⟩), H2.pm (Pm.nil _)⟩
          | exact ⟨_, res1 rfl rfl, congrArg Value.bool (dec_f fun hh => by (have h_ := (fit1 c1p).1 hh; first | omega | exact g37p h_.1 | exact g47p h_.2.2.1)).symm, H2.pm (Pm.nil _)⟩)
     | (have q_ := c2p
        first
          | exact ⟨_, res1 rfl rfl, congrArg Value.bool (dec_eq ⟨fun hd => (fit2 c2p).2 ⟨g57p, by omega, by (have h_ := oT hd; omega)⟩, fun hh => decide_eq_true (by have h_ := (fit2 c2p).1 hh; omega)⟩), H2.pm (Pm.nil _)⟩
          | exact ⟨_, res1 rfl rfl, congrArg Value.bool (dec_f fun hh => by (have h_ := (fit2 c2p).1 hh; first | omega | exact g57p h_.1 | exact g57p h_.1)).symm, H2.pm (Pm.nil _)⟩)
     | exact ⟨_, res1 rfl rfl, congrArg Value.bool (dec_f (fitx c0p c1p c2p c3p)).symm, H2.pm (Pm.nil _)⟩
     | (have q_ := c6p
        exact ⟨_, res1 rfl rfl, congrArg Value.bool (dec_f fun hh => of_ndec (of_n_t c6) ((fitNs_iff _ _).1 ((fit3_f c3p hp).1 hh).2.2.2 i hin)).symm, H2.pm (Pm.nil _)⟩)
     | (have q_ := c5p
        exact ⟨_, res1 rfl rfl, congrArg Value.bool (dec_t ((fit3_f c3p hp).2 ⟨g93p, by omega, by omega, (fitNs_iff _ _).2 fun j hj => ha j (by omega)⟩)).symm, H2.pm (Pm.nil _)⟩)
     | (exact ⟨_, res1 rfl rfl, congrArg Value.bool (dec_f fun hh => by
          obtain ⟨p, hp, h1_, h2_, h3_, _⟩ := (fit3 c3p).1 hh
          first
            | (have h_ := hq4.symm.trans g82p; rw [hp] at h_; cases h_; done)
            | (rw [ofF_get hp] at g93p; exact g93p h1_)
            | omega
            | (have h_ := hq5 p hp; rw [h_] at c4p; omega)).symm, H2.pm (Pm.nil _)⟩)
  have c1p := oF c1
  refine wcR ?_
  refine wV (v_eql rfl rfl) ?_
  refine wA ?_
  refine wl_nil ?_
  refine wc_cond rfl (fun c2 => ?_) (fun c2 => ?_)
  ·have c2p := oT c2
   refine wcR ?_
   refine wM ?_
   refine wV (v_eqls rfl rfl) ?_
   refine wM ?_
   refine wl_guard rfl rfl rfl (fun g57 => ?_) (fun g57 => ?_)
   rotate_left
   ·have g57p := oF g57
    refine wF g57 ?_
    refine wF g57 ?_
    refine wV (v_pick_f rfl g57 rfl) ?_
    refine wM ?_
    refine wF rfl ?_
    refine wF rfl ?_
    refine wF rfl ?_
    refine wF rfl ?_
    refine wV (v_pick_f rfl rfl rfl) ?_
    refine wA ?_
    refine wl_nil ?_
    refine wc_ret ?_
    first
      | (have q_ := c0p
         first
           | exact ⟨_, res1 rfl rfl, congrArg Value.bool (dec_eq ⟨fun hd => (fit0 c0p).2 ⟨g17p, g22p, by omega, by (have h_ := oT hd; omega)⟩, fun hh => decide_eq_true (by have h_ := (fit0 c0p).1 hh; omega)⟩), H2.pm (Pm.nil _)⟩
           | exact ⟨_, res1 rfl rfl, congrArg Value.bool (dec_f fun hh => by (have h_ := (fit0 c0p).1 hh; first | omega | exact g17p h_.1 | exact g22p h_.2.1)).symm, H2.pm (Pm.nil _)⟩)
      | (have q_ := c1p
         first
           | exact ⟨_, res1 rfl rfl, congrArg Value.bool (dec_eq ⟨fun hd => (fit1 c1p).2 ⟨g37p, by omega, g47p, by (have h_ := oT hd; omega)⟩, fun hh => decide_eq_true (by have h_ := (fit1 c1p).1 hh; omega)⟩), H2.pm (Pm.nil _)⟩
           | exact ⟨_, res1 rfl rfl, congrArg Value.bool (dec_f fun hh => by (have h_ := (fit1 c1p).1 hh; first | omega | exact g37p h_.1 | exact g47p h_.2.2.1)).symm, H2.pm (Pm.nil _)⟩)
      | (have q_ := c2p
         first
           | exact ⟨_, res1 rfl rfl, congrArg Value.bool (dec_eq ⟨fun hd => (fit2 c2p).2 ⟨g57p, by omega, by (have h_ := oT hd; omega)⟩, fun hh => decide_eq_true (by have h_ := (fit2 c2p).1 hh; omega)⟩), H2.pm (Pm.nil _)⟩
           | exact ⟨_, res1 rfl rfl, congrArg Value.bool (dec_f fun hh => by (have h_ := (fit2 c2p).1 hh; first | omega | exact g57p h_.1 | exact g57p h_.1)).symm, H2.pm (Pm.nil _)⟩)
      | exact ⟨_, res1 rfl rfl, congrArg Value.bool (dec_f (fitx c0p c1p c2p c3p)).symm, H2.pm (Pm.nil _)⟩
      | (have q_ := c6p
         exact ⟨_, res1 rfl rfl, congrArg Value.bool (dec_f fun hh => of_ndec (of_n_t c6) ((fitNs_iff _ _).1 ((fit3_f c3p hp).1 hh).2.2.2 i hin)).symm, H2.pm (Pm.nil _)⟩)
      | (have q_ := c5p
         exact ⟨_, res1 rfl rfl, congrArg Value.bool (dec_t ((fit3_f c3p hp).2 ⟨g93p, by omega, by omega, (fitNs_iff _ _).2 fun j hj => ha j (by omega)⟩)).symm, H2.pm (Pm.nil _)⟩)
      | (exact ⟨_, res1 rfl rfl, congrArg Value.bool (dec_f fun hh => by
           obtain ⟨p, hp, h1_, h2_, h3_, _⟩ := (fit3 c3p).1 hh
           first
             | (have h_ := hq4.symm.trans g82p; rw [hp] at h_; cases h_; done)
             | (rw [ofF_get hp] at g93p; exact g93p h1_)
             | omega
             | (have h_ := hq5 p hp; rw [h_] at c4p; omega)).symm, H2.pm (Pm.nil _)⟩)
   have g57p := oT g57
   refine wV (v_fb (o2 := 2) fa24_2 rfl rfl) ?_
   refine wO g57 ?_
   refine wV (v_load one3 rfl (H2.at (by repeat constructor) rfl)) ?_
   refine wO g57 ?_
   refine wV (v_eql rfl rfl) ?_
   refine wV (v_pick_t rfl g57 rfl) ?_
   refine wM ?_
   refine wl_guard rfl rfl rfl (fun g62 => ?_) (fun g62 => ?_)
   rotate_left
   ·have g62p := oF g62
    refine wF g62 ?_
    refine wF g62 ?_
    refine wF g62 ?_
    refine wV (v_pick_f rfl g62 rfl) ?_
    refine wA ?_
    refine wl_nil ?_
    refine wc_ret ?_
    first
      | (have q_ := c0p
         first
           | exact ⟨_, res1 rfl rfl, congrArg Value.bool (dec_eq ⟨fun hd => (fit0 c0p).2 ⟨g17p, g22p, by omega, by (have h_ := oT hd; omega)⟩, fun hh => decide_eq_true (by have h_ := (fit0 c0p).1 hh; omega)⟩), H2.pm (Pm.nil _)⟩
           | exact ⟨_, res1 rfl rfl, congrArg Value.bool (dec_f fun hh => by (have h_ := (fit0 c0p).1 hh; first | omega | exact g17p h_.1 | exact g22p h_.2.1)).symm, H2.pm (Pm.nil _)⟩)
      | (have q_ := c1p
         first
           | exact ⟨_, res1 rfl rfl, congrArg Value.bool (dec_eq ⟨fun hd => (fit1 c1p).2 ⟨g37p, by omega, g47p, by (have h_ := oT hd; omega)⟩, fun hh => decide_eq_true (by have h_ := (fit1 c1p).1 hh; omega)⟩), H2.pm (Pm.nil _)⟩
           | exact ⟨_, res1 rfl rfl, congrArg Value.bool (dec_f fun hh => by (have h_ := (fit1 c1p).1 hh; first | omega | exact g37p h_.1 | exact g47p h_.2.2.1)).symm, H2.pm (Pm.nil _)⟩)
      | (have q_ := c2p
         first
           | exact ⟨_, res1 rfl rfl, congrArg Value.bool (dec_eq ⟨fun hd => (fit2 c2p).2 ⟨g57p, by omega, by (have h_ := oT hd; omega)⟩, fun hh => decide_eq_true (by have h_ := (fit2 c2p).1 hh; omega)⟩), H2.pm (Pm.nil _)⟩
           | exact ⟨_, res1 rfl rfl, congrArg Value.bool (dec_f fun hh => by (have h_ := (fit2 c2p).1 hh; first | omega | exact g57p h_.1 | exact g57p h_.1)).symm, H2.pm (Pm.nil _)⟩)
      | exact ⟨_, res1 rfl rfl, congrArg Value.bool (dec_f (fitx c0p c1p c2p c3p)).symm, H2.pm (Pm.nil _)⟩
      | (have q_ := c6p
         exact ⟨_, res1 rfl rfl, congrArg Value.bool (dec_f fun hh => of_ndec (of_n_t c6) ((fitNs_iff _ _).1 ((fit3_f c3p hp).1 hh).2.2.2 i hin)).symm, H2.pm (Pm.nil _)⟩)
      | (have q_ := c5p
         exact ⟨_, res1 rfl rfl, congrArg Value.bool (dec_t ((fit3_f c3p hp).2 ⟨g93p, by omega, by omega, (fitNs_iff _ _).2 fun j hj => ha j (by omega)⟩)).symm, H2.pm (Pm.nil _)⟩)
      | (exact ⟨_, res1 rfl rfl, congrArg Value.bool (dec_f fun hh => by
           obtain ⟨p, hp, h1_, h2_, h3_, _⟩ := (fit3 c3p).1 hh
           first
             | (have h_ := hq4.symm.trans g82p; rw [hp] at h_; cases h_; done)
             | (rw [ofF_get hp] at g93p; exact g93p h1_)
             | omega
             | (have h_ := hq5 p hp; rw [h_] at c4p; omega)).symm, H2.pm (Pm.nil _)⟩)
   have g62p := oT g62
   refine wV (v_fb (o2 := 3) fa24_3 rfl rfl) ?_
   refine wO g62 ?_
   refine wV (v_load one22 rfl (H2.at (by repeat constructor) rfl)) ?_
   refine wO g62 ?_
   refine wV (v_len Try.underlying22 rfl) ?_
   refine wO g62 ?_
   refine wV (v_eql rfl rfl) ?_
   refine wV (v_pick_t rfl g62 rfl) ?_
   refine wA ?_
   refine wl_nil ?_
   refine wc_ret ?_
   first
     | (have q_ := c0p
        first
          | exact ⟨_, res1 rfl rfl, congrArg Value.bool (dec_eq ⟨fun hd => (fit0 c0p).2 ⟨g17p, g22p, by omega, by (have h_ := oT hd; omega)⟩, fun hh => decide_eq_true (by have h_ := (fit0 c0p).1 hh; omega)⟩), H2.pm (Pm.nil _)⟩
          | exact ⟨_, res1 rfl rfl, congrArg Value.bool (dec_f fun hh => by (have h_ := (fit0 c0p).1 hh; first | omega | exact g17p h_.1 | exact g22p h_.2.1)).symm, H2.pm (Pm.nil _)⟩)
     | (have q_ := c1p
        first
          | exact ⟨_, res1 rfl rfl, congrArg Value.bool (dec_eq ⟨fun hd => (fit1 c1p).2 ⟨g37p, by omega, g47p, by (have h_ := oT hd; omega)⟩, fun hh => decide_eq_true (by have h_ := (fit1 c1p).1 hh; omega)⟩), H2.pm (Pm.nil _)⟩
          | exact ⟨_, res1 rfl rfl, congrArg Value.bool (dec_f fun hh => by (have h_ := (fit1 c1p).1 hh; first | omega | exact g37p h_.1 | exact g47p h_.2.2.1)).symm, H2.pm (Pm.nil _)⟩)
     | (have q_ := c2p
        first
          | exact ⟨_, res1 rfl rfl, congrArg Value.bool (dec_eq ⟨fun hd => (fit2 c2p).2 ⟨g57p, by omega, by (have h_ := oT hd; omega)⟩, fun hh => decide_eq_true (by have h_ := (fit2 c2p).1 hh; omega)⟩), H2.pm (Pm.nil _)⟩
          | exact ⟨_, res1 rfl rfl, congrArg Value.bool (dec_f fun hh => by (have h_ := (fit2 c2p).1 hh; first | omega | exact g57p h_.1 | exact g57p h_.1)).symm, H2.pm (Pm.nil _)⟩)
     | exact ⟨_, res1 rfl rfl, congrArg Value.bool (dec_f (fitx c0p c1p c2p c3p)).symm, H2.pm (Pm.nil _)⟩
     | (have q_ := c6p
        exact ⟨_, res1 rfl rfl, congrArg Value.bool (dec_f fun hh => of_ndec (of_n_t c6) ((fitNs_iff _ _).1 ((fit3_f c3p hp).1 hh).2.2.2 i hin)).symm, H2.pm (Pm.nil _)⟩)
     | (have q_ := c5p
        exact ⟨_, res1 rfl rfl, congrArg Value.bool (dec_t ((fit3_f c3p hp).2 ⟨g93p, by omega, by omega, (fitNs_iff _ _).2 fun j hj => ha j (by omega)⟩)).symm, H2.pm (Pm.nil _)⟩)
     | (exact ⟨_, res1 rfl rfl, congrArg Value.bool (dec_f fun hh => by
          obtain ⟨p, hp, h1_, h2_, h3_, _⟩ := (fit3 c3p).1 hh
          first
            | (have h_ := hq4.symm.trans g82p; rw [hp] at h_; cases h_; done)
            | (rw [ofF_get hp] at g93p; exact g93p h1_)
            | omega
            | (have h_ := hq5 p hp; rw [h_] at c4p; omega)).symm, H2.pm (Pm.nil _)⟩)
  have c2p := oF c2
  refine wcR ?_
  refine wV (v_eql rfl rfl) ?_
  refine wA ?_
  refine wl_nil ?_
  refine wc_cond rfl (fun c3 => ?_) (fun c3 => ?_)
  rotate_left
  ·have c3p := oF c3
   refine wcR ?_
   refine wA ?_
   refine wl_nil ?_
   refine wc_ret ?_
   first
     | (have q_ := c0p
        first
          | exact ⟨_, res1 rfl rfl, congrArg Value.bool (dec_eq ⟨fun hd => (fit0 c0p).2 ⟨g17p, g22p, by omega, by (have h_ := oT hd; omega)⟩, fun hh => decide_eq_true (by have h_ := (fit0 c0p).1 hh; omega)⟩), H2.pm (Pm.nil _)⟩
          | exact ⟨_, res1 rfl rfl, congrArg Value.bool (dec_f fun hh => by (have h_ := (fit0 c0p).1 hh; first | omega | exact g17p h_.1 | exact g22p h_.2.1)).symm, H2.pm (Pm.nil _)⟩)
     | (have q_ := c1p
        first
          | exact ⟨_, res1 rfl rfl, congrArg Value.bool (dec_eq ⟨fun hd => (fit1 c1p).2 ⟨g37p, by omega, g47p, by (have h_ := oT hd; omega)⟩, fun hh => decide_eq_true (by have h_ := (fit1 c1p).1 hh; omega)⟩), H2.pm (Pm.nil _)⟩
          | exact ⟨_, res1 rfl rfl, congrArg Value.bool (dec_f fun hh => by (have h_ := (fit1 c1p).1 hh; first | omega | exact g37p h_.1 | exact g47p h_.2.2.1)).symm, H2.pm (Pm.nil _)⟩)
     | (have q_ := c2p
        first
          | exact ⟨_, res1 rfl rfl, congrArg Value.bool (dec_eq ⟨fun hd => (fit2 c2p).2 ⟨g57p, by omega, by (have h_ := oT hd; omega)⟩, fun hh => decide_eq_true (by have h_ := (fit2 c2p).1 hh; omega)⟩), H2.pm (Pm.nil _)⟩
          | exact ⟨_, res1 rfl rfl, congrArg Value.bool (dec_f fun hh => by (have h_ := (fit2 c2p).1 hh; first | omega | exact g57p h_.1 | exact g57p h_.1)).symm, H2.pm (Pm.nil _)⟩)
     | exact ⟨_, res1 rfl rfl, congrArg Value.bool (dec_f (fitx c0p c1p c2p c3p)).symm, H2.pm (Pm.nil _)⟩
     | (have q_ := c6p
        exact ⟨_, res1 rfl rfl, congrArg Value.bool (dec_f fun hh => of_ndec (of_n_t c6) ((fitNs_iff _ _).1 ((fit3_f c3p hp).1 hh).2.2.2 i hin)).symm, H2.pm (Pm.nil _)⟩)
     | (have q_ := c5p
        exact ⟨_, res1 rfl rfl, congrArg Value.bool (dec_t ((fit3_f c3p hp).2 ⟨g93p, by omega, by omega, (fitNs_iff _ _).2 fun j hj => ha j (by omega)⟩)).symm, H2.pm (Pm.nil _)⟩)
     | (exact ⟨_, res1 rfl rfl, congrArg Value.bool (dec_f fun hh => by
          obtain ⟨p, hp, h1_, h2_, h3_, _⟩ := (fit3 c3p).1 hh
          first
            | (have h_ := hq4.symm.trans g82p; rw [hp] at h_; cases h_; done)
            | (rw [ofF_get hp] at g93p; exact g93p h1_)
            | omega
            | (have h_ := hq5 p hp; rw [h_] at c4p; omega)).symm, H2.pm (Pm.nil _)⟩)
  have c3p := oT c3
  refine wc_skip ?_
  refine wc_seq ?_
  refine wc_tree [0, 1, 2, 3, 4, 5, 6, 7, 8, 9] (fun W => Holds w [Blk b4 24 [.int .i64 t.x.kind, .string t.x.name, .int .i64 t.x.tok, .slice B t.kids.length k]] W) mixed ?_
  have Hd := H2.drew
  have HSd : Holds w [Blk b4 24 [.int .i64 t.x.kind, .string t.x.name, .int .i64 t.x.tok, .slice B t.kids.length k]] _ := Hd.pm (by repeat constructor)
  refine wjV (k := 0) rfl HSd (fun W HW => v_move rfl) ?_
  refine wjV (k := 1) rfl HSd (fun W HW => v_nil rfl) ?_
  refine wjV (k := 2) rfl HSd (fun W HW => v_fb (o2 := 1) fa126_1 rfl rfl) ?_
  refine wjV (k := 3) rfl HSd (fun W HW => v_load one123 rfl (HW.cell (hdc 1 _ rfl))) ?_
  refine wjV (k := 4) rfl HSd (fun W HW => v_fb (o2 := 1) fa24_1 rfl rfl) ?_
  refine wjV (k := 5) rfl HSd (fun W HW => v_load one9 rfl (HW.at (by repeat constructor) rfl)) ?_
  obtain ⟨q9, A9, k9, hq1, hq2, hq3, hq4, hq5⟩ := hC.look t.x.name
  refine wjV (k := 6) rfl HSd (fun W HW => v_lookRok (hM1 _ HW.old) Try.underlying123 zv80 (show KS.ok t.x.name from Nat.le_trans hsz (by decide)) rfl rfl hq1) ?_
  refine wjV (k := 7) rfl HSd (fun W HW => v_move rfl) ?_
  refine wjV (k := 8) rfl HSd (fun W HW => v_extract rfl rfl) ?_
  refine wjV (k := 9) rfl HSd (fun W HW => v_extract rfl rfl) ?_
  refine wj_t (k := 10) rfl (by kernel_rfl) ?_
  refine wl_alloc (cs := [.string ⟨#[]⟩, .slice none 0 0]) Hd rfl zv80 rfl ?_
  intro b7 w3 hb7 H4
  have HS5 : Holds w [Blk b4 24 [.int .i64 t.x.kind, .string t.x.name, .int .i64 t.x.tok, .slice B t.kids.length k]] _ := H4.pm (by repeat constructor)
  refine wl_nil (tn ⟨fun _ => HS5, ?_⟩)
  refine wj_t (k := 11) rfl (by kernel_rfl) ?_
  refine wl_store (vs := [_, _]) H4 (by repeat constructor) sz80 rfl rfl rfl rfl rfl (by (repeat constructor)) ?_
  intro w6 H7 hw6
  have HS8 : Holds w [Blk b4 24 [.int .i64 t.x.kind, .string t.x.name, .int .i64 t.x.tok, .slice B t.kids.length k]] _ := H7.pm (by repeat constructor)
  refine wl_nil (tn ⟨fun _ => HS8, ?_⟩)
  refine wj_t (k := 12) rfl (by kernel_rfl) ?_
  refine wA ?_
  refine wl_nil (tn ⟨fun hlt => absurd hlt (by rw [show allH _ _ _ = true by kernel_rfl]; simp), ?_⟩)
  refine wj_done (by kernel_rfl) ?_
  refine wc_seq ?_
  refine wc_seq ?_
  refine wc_still mixed (by kernel_rfl) ?_
  have Hd := H7.drew
  refine ws_v rfl rfl rfl (v_move rfl) ?_
  refine ws_v rfl rfl rfl (v_not rfl) ?_
  refine ws_v rfl rfl rfl (v_move rfl) ?_
  refine ws_guard rfl rfl rfl (fun g82 => ?_) (fun g82 => ?_)
  rotate_left
  ·have g82p := of_n_t g82
   refine ws_off rfl rfl g82 rfl ?_
   refine ws_off rfl rfl g82 rfl ?_
   refine ws_off rfl rfl g82 rfl ?_
   refine ws_off rfl rfl g82 rfl ?_
   refine ws_off rfl rfl g82 rfl ?_
   refine ws_off rfl rfl g82 rfl ?_
   refine ws_off rfl rfl g82 rfl ?_
   refine ws_off rfl rfl g82 rfl ?_
   refine ws_v rfl rfl rfl (v_pick_t rfl g82 rfl) ?_
   refine ws_v rfl rfl rfl (v_move rfl) ?_
   refine ws_off rfl rfl rfl rfl ?_
   refine ws_off rfl rfl rfl rfl ?_
   refine ws_off rfl rfl rfl rfl ?_
   refine ws_v rfl rfl rfl (v_pick_t rfl rfl rfl) ?_
   refine ws_v rfl rfl rfl (v_move rfl) ?_
   refine ws_off rfl rfl rfl rfl ?_
   refine ws_off rfl rfl rfl rfl ?_
   refine ws_off rfl rfl rfl rfl ?_
   refine ws_off rfl rfl rfl rfl ?_
   refine ws_off rfl rfl rfl rfl ?_
   refine ws_off rfl rfl rfl rfl ?_
   refine ws_off rfl rfl rfl rfl ?_
   refine ws_v rfl rfl rfl (v_pick_t rfl rfl rfl) ?_
   refine ws_nil ?_
   refine wc_cond_t rfl ?_
   refine wcR ?_
   refine wA ?_
   refine wl_nil ?_
   refine wc_ret ?_
   first
     | (have q_ := c0p
        first
          | exact ⟨_, res1 rfl rfl, congrArg Value.bool (dec_eq ⟨fun hd => (fit0 c0p).2 ⟨g17p, g22p, by omega, by (have h_ := oT hd; omega)⟩, fun hh => decide_eq_true (by have h_ := (fit0 c0p).1 hh; omega)⟩), Hd.pm (Pm.nil _)⟩
          | exact ⟨_, res1 rfl rfl, congrArg Value.bool (dec_f fun hh => by (have h_ := (fit0 c0p).1 hh; first | omega | exact g17p h_.1 | exact g22p h_.2.1)).symm, Hd.pm (Pm.nil _)⟩)
     | (have q_ := c1p
        first
          | exact ⟨_, res1 rfl rfl, congrArg Value.bool (dec_eq ⟨fun hd => (fit1 c1p).2 ⟨g37p, by omega, g47p, by (have h_ := oT hd; omega)⟩, fun hh => decide_eq_true (by have h_ := (fit1 c1p).1 hh; omega)⟩), Hd.pm (Pm.nil _)⟩
          | exact ⟨_, res1 rfl rfl, congrArg Value.bool (dec_f fun hh => by (have h_ := (fit1 c1p).1 hh; first | omega | exact g37p h_.1 | exact g47p h_.2.2.1)).symm, Hd.pm (Pm.nil _)⟩)
     | (have q_ := c2p
        first
          | exact ⟨_, res1 rfl rfl, congrArg Value.bool (dec_eq ⟨fun hd => (fit2 c2p).2 ⟨g57p, by omega, by (have h_ := oT hd; omega)⟩, fun hh => decide_eq_true (by have h_ := (fit2 c2p).1 hh; omega)⟩), Hd.pm (Pm.nil _)⟩
          | exact ⟨_, res1 rfl rfl, congrArg Value.bool (dec_f fun hh => by (have h_ := (fit2 c2p).1 hh; first | omega | exact g57p h_.1 | exact g57p h_.1)).symm, Hd.pm (Pm.nil _)⟩)
     | exact ⟨_, res1 rfl rfl, congrArg Value.bool (dec_f (fitx c0p c1p c2p c3p)).symm, Hd.pm (Pm.nil _)⟩
     | (have q_ := c6p
        exact ⟨_, res1 rfl rfl, congrArg Value.bool (dec_f fun hh => of_ndec (of_n_t c6) ((fitNs_iff _ _).1 ((fit3_f c3p hp).1 hh).2.2.2 i hin)).symm, Hd.pm (Pm.nil _)⟩)
     | (have q_ := c5p
        exact ⟨_, res1 rfl rfl, congrArg Value.bool (dec_t ((fit3_f c3p hp).2 ⟨g93p, by omega, by omega, (fitNs_iff _ _).2 fun j hj => ha j (by omega)⟩)).symm, Hd.pm (Pm.nil _)⟩)
     | (exact ⟨_, res1 rfl rfl, congrArg Value.bool (dec_f fun hh => by
          obtain ⟨p, hp, h1_, h2_, h3_, _⟩ := (fit3 c3p).1 hh
          first
            | (have h_ := hq4.symm.trans g82p; rw [hp] at h_; cases h_; done)
            | (rw [ofF_get hp] at g93p; exact g93p h1_)
            | omega
            | (have h_ := hq5 p hp; rw [h_] at c4p; omega)).symm, Hd.pm (Pm.nil _)⟩)
  have g82p := of_n_f g82
  refine ws_v rfl rfl rfl (v_move rfl) ?_
  refine ws_on' rfl rfl g82 ?_
  refine ws_v rfl rfl rfl (v_nil rfl) ?_
  refine ws_on' rfl rfl g82 ?_
  refine ws_v rfl rfl rfl (v_fb (o2 := 2) fa126_2 rfl rfl) ?_
  refine ws_on' rfl rfl g82 ?_
  refine ws_v rfl rfl rfl (v_load one124 rfl (Hd.cell (hdc 2 _ rfl))) ?_
  refine ws_on' rfl rfl g82 ?_
  refine ws_v rfl rfl rfl (v_fb (o2 := 1) fa24_1 rfl rfl) ?_
  refine ws_on' rfl rfl g82 ?_
  refine ws_v rfl rfl rfl (v_load one9 rfl (Hd.at (by repeat constructor) rfl)) ?_
  refine ws_on' rfl rfl g82 ?_
  refine ws_v rfl rfl rfl (v_lookR (hM2 _ Hd.old) Try.underlying124 zv9 (show KS.ok t.x.name from Nat.le_trans hsz (by decide)) rfl rfl (ofF_look _ _)) ?_
  refine ws_on' rfl rfl g82 ?_
  refine ws_v rfl rfl rfl (v_move rfl) ?_
  refine ws_on' rfl rfl g82 ?_
  refine ws_v rfl rfl rfl (v_neqs rfl rfl) ?_
  refine ws_v rfl rfl rfl (v_pick_f rfl g82 rfl) ?_
  refine ws_v rfl rfl rfl (v_move rfl) ?_
  refine ws_guard rfl rfl rfl (fun g93 => ?_) (fun g93 => ?_)
  rotate_left
  ·have g93p := of_nd_t g93
   refine ws_off rfl rfl g93 rfl ?_
   refine ws_off rfl rfl g93 rfl ?_
   refine ws_v rfl rfl rfl (v_pick_t rfl g93 rfl) ?_
   refine ws_v rfl rfl rfl (v_move rfl) ?_
   refine ws_off rfl rfl rfl rfl ?_
   refine ws_off rfl rfl rfl rfl ?_
   refine ws_off rfl rfl rfl rfl ?_
   refine ws_off rfl rfl rfl rfl ?_
   refine ws_off rfl rfl rfl rfl ?_
   refine ws_off rfl rfl rfl rfl ?_
   refine ws_off rfl rfl rfl rfl ?_
   refine ws_v rfl rfl rfl (v_pick_t rfl rfl rfl) ?_
   refine ws_nil ?_
   refine wc_cond_t rfl ?_
   refine wcR ?_
   refine wA ?_
   refine wl_nil ?_
   refine wc_ret ?_
   first
     | (have q_ := c0p
        first
          | exact ⟨_, res1 rfl rfl, congrArg Value.bool (dec_eq ⟨fun hd => (fit0 c0p).2 ⟨g17p, g22p, by omega, by (have h_ := oT hd; omega)⟩, fun hh => decide_eq_true (by have h_ := (fit0 c0p).1 hh; omega)⟩), Hd.pm (Pm.nil _)⟩
          | exact ⟨_, res1 rfl rfl, congrArg Value.bool (dec_f fun hh => by (have h_ := (fit0 c0p).1 hh; first | omega | exact g17p h_.1 | exact g22p h_.2.1)).symm, Hd.pm (Pm.nil _)⟩)
     | (have q_ := c1p
        first
          | exact ⟨_, res1 rfl rfl, congrArg Value.bool (dec_eq ⟨fun hd => (fit1 c1p).2 ⟨g37p, by omega, g47p, by (have h_ := oT hd; omega)⟩, fun hh => decide_eq_true (by have h_ := (fit1 c1p).1 hh; omega)⟩), Hd.pm (Pm.nil _)⟩
          | exact ⟨_, res1 rfl rfl, congrArg Value.bool (dec_f fun hh => by (have h_ := (fit1 c1p).1 hh; first | omega | exact g37p h_.1 | exact g47p h_.2.2.1)).symm, Hd.pm (Pm.nil _)⟩)
     | (have q_ := c2p
        first
          | exact ⟨_, res1 rfl rfl, congrArg Value.bool (dec_eq ⟨fun hd => (fit2 c2p).2 ⟨g57p, by omega, by (have h_ := oT hd; omega)⟩, fun hh => decide_eq_true (by have h_ := (fit2 c2p).1 hh; omega)⟩), Hd.pm (Pm.nil _)⟩
          | exact ⟨_, res1 rfl rfl, congrArg Value.bool (dec_f fun hh => by (have h_ := (fit2 c2p).1 hh; first | omega | exact g57p h_.1 | exact g57p h_.1)).symm, Hd.pm (Pm.nil _)⟩)
     | exact ⟨_, res1 rfl rfl, congrArg Value.bool (dec_f (fitx c0p c1p c2p c3p)).symm, Hd.pm (Pm.nil _)⟩
     | (have q_ := c6p
        exact ⟨_, res1 rfl rfl, congrArg Value.bool (dec_f fun hh => of_ndec (of_n_t c6) ((fitNs_iff _ _).1 ((fit3_f c3p hp).1 hh).2.2.2 i hin)).symm, Hd.pm (Pm.nil _)⟩)
     | (have q_ := c5p
        exact ⟨_, res1 rfl rfl, congrArg Value.bool (dec_t ((fit3_f c3p hp).2 ⟨g93p, by omega, by omega, (fitNs_iff _ _).2 fun j hj => ha j (by omega)⟩)).symm, Hd.pm (Pm.nil _)⟩)
     | (exact ⟨_, res1 rfl rfl, congrArg Value.bool (dec_f fun hh => by
          obtain ⟨p, hp, h1_, h2_, h3_, _⟩ := (fit3 c3p).1 hh
          first
            | (have h_ := hq4.symm.trans g82p; rw [hp] at h_; cases h_; done)
            | (rw [ofF_get hp] at g93p; exact g93p h1_)
            | omega
            | (have h_ := hq5 p hp; rw [h_] at c4p; omega)).symm, Hd.pm (Pm.nil _)⟩)
  have g93p := of_nd_f g93
  refine ws_v rfl rfl rfl (v_fb (o2 := 2) fa24_2 rfl rfl) ?_
  refine ws_on' rfl rfl g93 ?_
  refine ws_v rfl rfl rfl (v_load one3 rfl (Hd.at (by repeat constructor) rfl)) ?_
  refine ws_on' rfl rfl g93 ?_
  refine ws_v rfl rfl rfl (v_neq rfl rfl) ?_
  refine ws_v rfl rfl rfl (v_pick_f rfl g93 rfl) ?_
  refine ws_v rfl rfl rfl (v_move rfl) ?_
  refine ws_guard rfl rfl rfl (fun g98 => ?_) (fun g98 => ?_)
  rotate_left
  ·have g98p := of_nd_t g98
   refine ws_off rfl rfl g98 rfl ?_
   refine ws_off rfl rfl g98 rfl ?_
   refine ws_off rfl rfl g98 rfl ?_
   refine ws_off rfl rfl g98 rfl ?_
   refine ws_off rfl rfl g98 rfl ?_
   refine ws_off rfl rfl g98 rfl ?_
   refine ws_v rfl rfl rfl (v_pick_t rfl g98 rfl) ?_
   refine ws_nil ?_
   refine wc_cond_t rfl ?_
   refine wcR ?_
   refine wA ?_
   refine wl_nil ?_
   refine wc_ret ?_
   first
     | (have q_ := c0p
        first
          | exact ⟨_, res1 rfl rfl, congrArg Value.bool (dec_eq ⟨fun hd => (fit0 c0p).2 ⟨g17p, g22p, by omega, by (have h_ := oT hd; omega)⟩, fun hh => decide_eq_true (by have h_ := (fit0 c0p).1 hh; omega)⟩), Hd.pm (Pm.nil _)⟩
          | exact ⟨_, res1 rfl rfl, congrArg Value.bool (dec_f fun hh => by (have h_ := (fit0 c0p).1 hh; first | omega | exact g17p h_.1 | exact g22p h_.2.1)).symm, Hd.pm (Pm.nil _)⟩)
     | (have q_ := c1p
        first
          | exact ⟨_, res1 rfl rfl, congrArg Value.bool (dec_eq ⟨fun hd => (fit1 c1p).2 ⟨g37p, by omega, g47p, by (have h_ := oT hd; omega)⟩, fun hh => decide_eq_true (by have h_ := (fit1 c1p).1 hh; omega)⟩), Hd.pm (Pm.nil _)⟩
          | exact ⟨_, res1 rfl rfl, congrArg Value.bool (dec_f fun hh => by (have h_ := (fit1 c1p).1 hh; first | omega | exact g37p h_.1 | exact g47p h_.2.2.1)).symm, Hd.pm (Pm.nil _)⟩)
     | (have q_ := c2p
        first
          | exact ⟨_, res1 rfl rfl, congrArg Value.bool (dec_eq ⟨fun hd => (fit2 c2p).2 ⟨g57p, by omega, by (have h_ := oT hd; omega)⟩, fun hh => decide_eq_true (by have h_ := (fit2 c2p).1 hh; omega)⟩), Hd.pm (Pm.nil _)⟩
          | exact ⟨_, res1 rfl rfl, congrArg Value.bool (dec_f fun hh => by (have h_ := (fit2 c2p).1 hh; first | omega | exact g57p h_.1 | exact g57p h_.1)).symm, Hd.pm (Pm.nil _)⟩)
     | exact ⟨_, res1 rfl rfl, congrArg Value.bool (dec_f (fitx c0p c1p c2p c3p)).symm, Hd.pm (Pm.nil _)⟩
     | (have q_ := c6p
        exact ⟨_, res1 rfl rfl, congrArg Value.bool (dec_f fun hh => of_ndec (of_n_t c6) ((fitNs_iff _ _).1 ((fit3_f c3p hp).1 hh).2.2.2 i hin)).symm, Hd.pm (Pm.nil _)⟩)
     | (have q_ := c5p
        exact ⟨_, res1 rfl rfl, congrArg Value.bool (dec_t ((fit3_f c3p hp).2 ⟨g93p, by omega, by omega, (fitNs_iff _ _).2 fun j hj => ha j (by omega)⟩)).symm, Hd.pm (Pm.nil _)⟩)
     | (exact ⟨_, res1 rfl rfl, congrArg Value.bool (dec_f fun hh => by
          obtain ⟨p, hp, h1_, h2_, h3_, _⟩ := (fit3 c3p).1 hh
          first
            | (have h_ := hq4.symm.trans g82p; rw [hp] at h_; cases h_; done)
            | (rw [ofF_get hp] at g93p; exact g93p h1_)
            | omega
            | (have h_ := hq5 p hp; rw [h_] at c4p; omega)).symm, Hd.pm (Pm.nil _)⟩)
  have g98p := of_nd_f g98
  refine ws_v rfl rfl rfl (v_fb (o2 := 1) fa80_1 rfl rfl) ?_
  refine ws_on' rfl rfl g98 ?_
  refine ws_v rfl rfl rfl (v_load one40 rfl (Hd.at (by repeat constructor) rfl)) ?_
  refine ws_on' rfl rfl g98 ?_
  refine ws_v rfl rfl rfl (v_len Try.underlying40 rfl) ?_
  refine ws_on' rfl rfl g98 ?_
  refine ws_v rfl rfl rfl (v_fb (o2 := 3) fa24_3 rfl rfl) ?_
  refine ws_on' rfl rfl g98 ?_
  refine ws_v rfl rfl rfl (v_load one22 rfl (Hd.at (by repeat constructor) rfl)) ?_
  refine ws_on' rfl rfl g98 ?_
  refine ws_v rfl rfl rfl (v_len Try.underlying22 rfl) ?_
  refine ws_on' rfl rfl g98 ?_
  refine ws_v rfl rfl rfl (v_neq rfl rfl) ?_
  refine ws_v rfl rfl rfl (v_pick_f rfl g98 rfl) ?_
  refine ws_nil ?_
  refine wc_cond rfl (fun c4 => ?_) (fun c4 => ?_)
  ·have c4p := of_nd_t c4
   refine wcR ?_
   refine wA ?_
   refine wl_nil ?_
   refine wc_ret ?_
   first
     | (have q_ := c0p
        first
          | exact ⟨_, res1 rfl rfl, congrArg Value.bool (dec_eq ⟨fun hd => (fit0 c0p).2 ⟨g17p, g22p, by omega, by (have h_ := oT hd; omega)⟩, fun hh => decide_eq_true (by have h_ := (fit0 c0p).1 hh; omega)⟩), Hd.pm (Pm.nil _)⟩
          | exact ⟨_, res1 rfl rfl, congrArg Value.bool (dec_f fun hh => by (have h_ := (fit0 c0p).1 hh; first | omega | exact g17p h_.1 | exact g22p h_.2.1)).symm, Hd.pm (Pm.nil _)⟩)
     | (have q_ := c1p
        first
          | exact ⟨_, res1 rfl rfl, congrArg Value.bool (dec_eq ⟨fun hd => (fit1 c1p).2 ⟨g37p, by omega, g47p, by (have h_ := oT hd; omega)⟩, fun hh => decide_eq_true (by have h_ := (fit1 c1p).1 hh; omega)⟩), Hd.pm (Pm.nil _)⟩
          | exact ⟨_, res1 rfl rfl, congrArg Value.bool (dec_f fun hh => by (have h_ := (fit1 c1p).1 hh; first | omega | exact g37p h_.1 | exact g47p h_.2.2.1)).symm, Hd.pm (Pm.nil _)⟩)
     | (have q_ := c2p
        first
          | exact ⟨_, res1 rfl rfl, congrArg Value.bool (dec_eq ⟨fun hd => (fit2 c2p).2 ⟨g57p, by omega, by (have h_ := oT hd; omega)⟩, fun hh => decide_eq_true (by have h_ := (fit2 c2p).1 hh; omega)⟩), Hd.pm (Pm.nil _)⟩
          | exact ⟨_, res1 rfl rfl, congrArg Value.bool (dec_f fun hh => by (have h_ := (fit2 c2p).1 hh; first | omega | exact g57p h_.1 | exact g57p h_.1)).symm, Hd.pm (Pm.nil _)⟩)
     | exact ⟨_, res1 rfl rfl, congrArg Value.bool (dec_f (fitx c0p c1p c2p c3p)).symm, Hd.pm (Pm.nil _)⟩
     | (have q_ := c6p
        exact ⟨_, res1 rfl rfl, congrArg Value.bool (dec_f fun hh => of_ndec (of_n_t c6) ((fitNs_iff _ _).1 ((fit3_f c3p hp).1 hh).2.2.2 i hin)).symm, Hd.pm (Pm.nil _)⟩)
     | (have q_ := c5p
        exact ⟨_, res1 rfl rfl, congrArg Value.bool (dec_t ((fit3_f c3p hp).2 ⟨g93p, by omega, by omega, (fitNs_iff _ _).2 fun j hj => ha j (by omega)⟩)).symm, Hd.pm (Pm.nil _)⟩)
     | (exact ⟨_, res1 rfl rfl, congrArg Value.bool (dec_f fun hh => by
          obtain ⟨p, hp, h1_, h2_, h3_, _⟩ := (fit3 c3p).1 hh
          first
            | (have h_ := hq4.symm.trans g82p; rw [hp] at h_; cases h_; done)
            | (rw [ofF_get hp] at g93p; exact g93p h1_)
            | omega
            | (have h_ := hq5 p hp; rw [h_] at c4p; omega)).symm, Hd.pm (Pm.nil _)⟩)
  have c4p := of_nd_f c4
  have hfs : (fnd P t.x.name).isSome = true := hq4.symm.trans g82p
  obtain ⟨p, hp⟩ := Option.isSome_iff_exists.1 hfs
  obtain rfl := hq5 p hp
  rw [ofF_get hp] at g93p
  refine wc_skip ?_
  refine wc_seq ?_
  refine wcR ?_
  refine wV (v_fb (o2 := 3) fa24_3 rfl rfl) ?_
  refine wV (v_load one22 rfl (Hd.at (by repeat constructor) rfl)) ?_
  refine wV (v_len Try.underlying22 rfl) ?_
  refine wM ?_
  refine wl_nil ?_
  refine wc_block ?_
  refine wc_loop (σ := Nat) (fun s => [(0, .pointer (some ⟨bd, 0, none⟩)), (4, .pointer (some ⟨b4, 0, none⟩)), (7, .pointer (some ⟨b7, 0, none⟩)), (108, .slice B t.kids.length k), (109, .int .i64 t.kids.length), (110, .int .i64 s)]) (fun s W => (s ≤ t.kids.length ∧ ∀ j, j < s → fitN P (t.kids.getD j nd0) (p.2.fields.getD j s0)) ∧ Holds w [Blk b7 80 [.string p.2.name, .slice A9 p.2.fields.length k9], Blk b4 24 [.int .i64 t.x.kind, .string t.x.name, .int .i64 t.x.tok, .slice B t.kids.length k]] W) (fun s => t.kids.length - s) 0 (sc rfl (sc rfl (sc rfl (sc rfl (sc rfl (sc rfl (sn _))))))) ⟨⟨Nat.zero_le _, upto_zero⟩, Hd.pm (by repeat constructor)⟩ ?_
  rintro i W0 ⟨⟨hi, ha⟩, H⟩
  refine wcR ?_
  refine wV (v_lss rfl rfl) ?_
  refine wl_nil ?_
  refine wc_seq ?_
  refine wc_cond rfl (fun c5 => ?_) (fun c5 => ?_)
  rotate_left
  ·have c5p := oF c5
   refine wc_exit ?_
   refine wcR ?_
   refine wA ?_
   refine wl_nil ?_
   refine wc_ret ?_
   first
     | (have q_ := c0p
        first
          | exact ⟨_, res1 rfl rfl, congrArg Value.bool (dec_eq ⟨fun hd => (fit0 c0p).2 ⟨g17p, g22p, by omega, by (have h_ := oT hd; omega)⟩, fun hh => decide_eq_true (by have h_ := (fit0 c0p).1 hh; omega)⟩), H.pm (Pm.nil _)⟩
          | exact ⟨_, res1 rfl rfl, congrArg Value.bool (dec_f fun hh => by (have h_ := (fit0 c0p).1 hh; first | omega | exact g17p h_.1 | exact g22p h_.2.1)).symm, H.pm (Pm.nil _)⟩)
     | (have q_ := c1p
        first
          | exact ⟨_, res1 rfl rfl, congrArg Value.bool (dec_eq ⟨fun hd => (fit1 c1p).2 ⟨g37p, by omega, g47p, by (have h_ := oT hd; omega)⟩, fun hh => decide_eq_true (by have h_ := (fit1 c1p).1 hh; omega)⟩), H.pm (Pm.nil _)⟩
          | exact ⟨_, res1 rfl rfl, congrArg Value.bool (dec_f fun hh => by (have h_ := (fit1 c1p).1 hh; first | omega | exact g37p h_.1 | exact g47p h_.2.2.1)).symm, H.pm (Pm.nil _)⟩)
     | (have q_ := c2p
        first
          | exact ⟨_, res1 rfl rfl, congrArg Value.bool (dec_eq ⟨fun hd => (fit2 c2p).2 ⟨g57p, by omega, by (have h_ := oT hd; omega)⟩, fun hh => decide_eq_true (by have h_ := (fit2 c2p).1 hh; omega)⟩), H.pm (Pm.nil _)⟩
          | exact ⟨_, res1 rfl rfl, congrArg Value.bool (dec_f fun hh => by (have h_ := (fit2 c2p).1 hh; first | omega | exact g57p h_.1 | exact g57p h_.1)).symm, H.pm (Pm.nil _)⟩)
     | exact ⟨_, res1 rfl rfl, congrArg Value.bool (dec_f (fitx c0p c1p c2p c3p)).symm, H.pm (Pm.nil _)⟩
     | (have q_ := c6p
        exact ⟨_, res1 rfl rfl, congrArg Value.bool (dec_f fun hh => of_ndec (of_n_t c6) ((fitNs_iff _ _).1 ((fit3_f c3p hp).1 hh).2.2.2 i hin)).symm, H.pm (Pm.nil _)⟩)
     | (have q_ := c5p
        exact ⟨_, res1 rfl rfl, congrArg Value.bool (dec_t ((fit3_f c3p hp).2 ⟨g93p, by omega, by omega, (fitNs_iff _ _).2 fun j hj => ha j (by omega)⟩)).symm, H.pm (Pm.nil _)⟩)
     | (exact ⟨_, res1 rfl rfl, congrArg Value.bool (dec_f fun hh => by
          obtain ⟨p, hp, h1_, h2_, h3_, _⟩ := (fit3 c3p).1 hh
          first
            | (have h_ := hq4.symm.trans g82p; rw [hp] at h_; cases h_; done)
            | (rw [ofF_get hp] at g93p; exact g93p h1_)
            | omega
            | (have h_ := hq5 p hp; rw [h_] at c4p; omega)).symm, H.pm (Pm.nil _)⟩)
  have c5p := oT c5
  have hin : i < t.kids.length := by omega
  refine wc_skip ?_
  refine wc_seq ?_
  refine wc_block ?_
  refine wcR ?_
  refine wM ?_
  refine wV (v_idx Try.underlying22 sz24 hr.ad rfl rfl (by omega) (by omega)) ?_
  obtain ⟨B114_, k114_, hc114_, hl114_, hr114_⟩ := hr.atTr nd0 (i := i) (by omega)
  refine wV (v_loadN (cs := [.int .i64 (t.kids.getD i nd0).x.kind, .string (t.kids.getD i nd0).x.name, .int .i64 (t.kids.getD i nd0).x.tok, .slice B114_ (t.kids.getD i nd0).kids.length k114_]) agg24 rfl rfl (fun q_ u_ hu_ => H.cell (hc114_ q_ u_ hu_))) ?_
  refine wl_alloc (cs := [.int .i64 0, .string ⟨#[]⟩, .int .i64 0, .slice none 0 0]) H rfl zv24 rfl ?_
  intro b10 w11 hb10 H12
  refine wA ?_
  refine wl_store (vs := [_, _, _, _]) H12 (by repeat constructor) sz24 rfl rfl rfl rfl rfl (by (repeat constructor)) ?_
  intro w13 H14 hw13
  refine wl_nil ?_
  refine wc_seq ?_
  refine wc_tree [0, 1, 2, 3, 4, 5, 6, 8] (fun W => Holds w [Blk b10 24 [.int .i64 (t.kids.getD i nd0).x.kind, .string (t.kids.getD i nd0).x.name, .int .i64 (t.kids.getD i nd0).x.tok, .slice B114_ (t.kids.getD i nd0).kids.length k114_], Blk b7 80 [.string p.2.name, .slice A9 p.2.fields.length k9], Blk b4 24 [.int .i64 t.x.kind, .string t.x.name, .int .i64 t.x.tok, .slice B t.kids.length k]] W) mixed ?_
  have Hd := H14.drew
  have HSd : Holds w [Blk b10 24 [.int .i64 (t.kids.getD i nd0).x.kind, .string (t.kids.getD i nd0).x.name, .int .i64 (t.kids.getD i nd0).x.tok, .slice B114_ (t.kids.getD i nd0).kids.length k114_], Blk b7 80 [.string p.2.name, .slice A9 p.2.fields.length k9], Blk b4 24 [.int .i64 t.x.kind, .string t.x.name, .int .i64 t.x.tok, .slice B t.kids.length k]] _ := Hd.pm (by repeat constructor)
  refine wjV (k := 0) rfl HSd (fun W HW => v_move rfl) ?_
  refine wjV (k := 1) rfl HSd (fun W HW => v_loadN agg24 rfl rfl (HW.ats (by repeat constructor))) ?_
  refine wjV (k := 2) rfl HSd (fun W HW => v_fb (o2 := 1) fa80_1 rfl rfl) ?_
  refine wjV (k := 3) rfl HSd (fun W HW => v_load one40 rfl (HW.at (by repeat constructor) rfl)) ?_
  refine wjV (k := 4) rfl HSd (fun W HW => v_move rfl) ?_
  refine wjV (k := 5) rfl HSd (fun W HW => v_idx Try.underlying40 sz9 hq3.ad rfl rfl (by omega) (by omega)) ?_
  refine wjV (k := 6) rfl HSd (fun W HW => v_load one9 rfl (HW.cell (hq3.at1sN (i := i) (by omega)))) ?_
  refine wj_t (k := 7) rfl (by kernel_rfl) ?_
  refine wl_call en53 rfl rfl (ih _ (getD_mem (z := nd0) hin) _ _ _ bd b0 b1 b2 ns (p.2.fields.getD i s0) fC (hds.below Hd.old) (hr114_.below Hd.old) (Tr.Alls_at nd0 hin hks)) ?_
  rintro _ w15 ⟨rfl, Hc⟩
  have H16 := Hd.call0 Hc
  have HS17 : Holds w [Blk b10 24 [.int .i64 (t.kids.getD i nd0).x.kind, .string (t.kids.getD i nd0).x.name, .int .i64 (t.kids.getD i nd0).x.tok, .slice B114_ (t.kids.getD i nd0).kids.length k114_], Blk b7 80 [.string p.2.name, .slice A9 p.2.fields.length k9], Blk b4 24 [.int .i64 t.x.kind, .string t.x.name, .int .i64 t.x.tok, .slice B t.kids.length k]] _ := H16.pm (by repeat constructor)
  refine wl_nil (tn ⟨fun _ => HS17, ?_⟩)
  refine wjV (k := 8) rfl HS17 (fun W HW => v_not rfl) ?_
  refine wj_done (by kernel_rfl) ?_
  refine wc_cond rfl (fun c6 => ?_) (fun c6 => ?_)
  rotate_left
  ·have c6p := of_n_f c6
   refine wc_skip ?_
   refine wc_region ?_
   refine wV (v_addi rfl rfl (by omega)) ?_
   refine wM ?_
   refine wl_nil ?_
   exact ⟨i + 1, (sc rfl (sc rfl (sc rfl (sc rfl (sc rfl (sc rfl (sn _))))))), ⟨⟨by omega, upto_succ ha (of_dec (of_n_f c6))⟩, H16.pm (by repeat constructor)⟩, by omega⟩
  have c6p := of_n_t c6
  refine wcR ?_
  refine wA ?_
  refine wl_nil ?_
  refine wc_ret ?_
  first
    | (have q_ := c0p
       first
         | exact ⟨_, res1 rfl rfl, congrArg Value.bool (dec_eq ⟨fun hd => (fit0 c0p).2 ⟨g17p, g22p, by omega, by (have h_ := oT hd; omega)⟩, fun hh => decide_eq_true (by have h_ := (fit0 c0p).1 hh; omega)⟩), H16.pm (Pm.nil _)⟩
         | exact ⟨_, res1 rfl rfl, congrArg Value.bool (dec_f fun hh => by (have h_ := (fit0 c0p).1 hh; first | omega | exact g17p h_.1 | exact g22p h_.2.1)).symm, H16.pm (Pm.nil _)⟩)
    | (have q_ := c1p
       first
         | exact ⟨_, res1 rfl rfl, congrArg Value.bool (dec_eq ⟨fun hd => (fit1 c1p).2 ⟨g37p, by omega, g47p, by (have h_ := oT hd; omega)⟩, fun hh => decide_eq_true (by have h_ := (fit1 c1p).1 hh; omega)⟩), H16.pm (Pm.nil _)⟩
         | exact ⟨_, res1 rfl rfl, congrArg Value.bool (dec_f fun hh => by (have h_ := (fit1 c1p).1 hh; first | omega | exact g37p h_.1 | exact g47p h_.2.2.1)).symm, H16.pm (Pm.nil _)⟩)
    | (have q_ := c2p
       first
         | exact ⟨_, res1 rfl rfl, congrArg Value.bool (dec_eq ⟨fun hd => (fit2 c2p).2 ⟨g57p, by omega, by (have h_ := oT hd; omega)⟩, fun hh => decide_eq_true (by have h_ := (fit2 c2p).1 hh; omega)⟩), H16.pm (Pm.nil _)⟩
         | exact ⟨_, res1 rfl rfl, congrArg Value.bool (dec_f fun hh => by (have h_ := (fit2 c2p).1 hh; first | omega | exact g57p h_.1 | exact g57p h_.1)).symm, H16.pm (Pm.nil _)⟩)
    | exact ⟨_, res1 rfl rfl, congrArg Value.bool (dec_f (fitx c0p c1p c2p c3p)).symm, H16.pm (Pm.nil _)⟩
    | (have q_ := c6p
       exact ⟨_, res1 rfl rfl, congrArg Value.bool (dec_f fun hh => of_ndec (of_n_t c6) ((fitNs_iff _ _).1 ((fit3_f c3p hp).1 hh).2.2.2 i hin)).symm, H16.pm (Pm.nil _)⟩)
    | (have q_ := c5p
       exact ⟨_, res1 rfl rfl, congrArg Value.bool (dec_t ((fit3_f c3p hp).2 ⟨g93p, by omega, by omega, (fitNs_iff _ _).2 fun j hj => ha j (by omega)⟩)).symm, H16.pm (Pm.nil _)⟩)
    | (exact ⟨_, res1 rfl rfl, congrArg Value.bool (dec_f fun hh => by
         obtain ⟨p, hp, h1_, h2_, h3_, _⟩ := (fit3 c3p).1 hh
         first
           | (have h_ := hq4.symm.trans g82p; rw [hp] at h_; cases h_; done)
           | (rw [ofF_get hp] at g93p; exact g93p h1_)
           | omega
           | (have h_ := hq5 p hp; rw [h_] at c4p; omega)).symm, H16.pm (Pm.nil _)⟩)

theorem dvalue_calls {P : List (ByteArray × Ct)} : ∀ t : Nd, ValDOk P t := Tr.ind fun x kids ih => fun w B k bd b0 b1 b2 ns name fC hds hr hf => dvalue_step (t := .mk x kids) hds hr hf ih

set_option maxHeartbeats 1600000 in
set_option maxRecDepth 100000 in
theorem ptyped_calls {l : List Dt} {t : Nd} {A B : Option Addr} {cd k : Nat} {name : ByteArray} {w : World} (hl : DOk l) (hd : Rd kDt w A l) (hr : Rd (kTr fNd) w B t.kids) (hf : t.All smallN) :
    Calls Try.prog 21 #[.slice A l.length cd, .agg #[.int .i64 t.x.kind, .string t.x.name, .int .i64 t.x.tok, .slice B t.kids.length k], .string name] w fun e w' => ∃ v, e = .returned v ∧ v = .bool (dec (TypedOk l t name)) ∧ Holds w [] w' := by
  refine calls_of Try.func21 rfl Try.ntmps21 rfl ?_
  have H := Holds.start w
  refine wcR ?_
  refine wl_box (cs := [_, _, _, _]) H rfl rfl rfl ?_
  intro b4 w1 hb4 H2
  refine wA ?_
  refine wl_nil ?_
  refine wcR ?_
  refine wM ?_
  refine wl_call en48 rfl rfl (known_calls hl hd H2) ?_
  rintro _ w3 ⟨bd, b0, b1, b2, fC, rfl, H3, hkf⟩
  refine wM ?_
  refine wV (v_extract rfl rfl) ?_
  refine wV (v_extract rfl rfl) ?_
  refine wA ?_
  refine wA ?_
  refine wl_nil ?_
  refine wcR ?_
  refine wM ?_
  refine wV (v_eql rfl rfl) ?_
  refine wM ?_
  refine wl_guard rfl rfl rfl (fun g16 => ?_) (fun g16 => ?_)
  rotate_left
  ·have g16p := oF g16
   refine wF g16 ?_
   refine wF g16 ?_
   refine wF g16 ?_
   refine wV (v_pick_f rfl g16 rfl) ?_
   refine wA ?_
   refine wl_nil ?_
   refine wc_ret ?_
   first
     | (have q_ := hC
        exact ⟨_, res1 rfl rfl, congrArg Value.bool (dec_iff ⟨fun h => ⟨g16p, h⟩, fun h => h.2⟩), H3.pm (Pm.nil _)⟩)
     | exact ⟨_, res1 rfl rfl, congrArg Value.bool (dec_f fun hh => g16p hh.1).symm, H3.pm (Pm.nil _)⟩
  have g16p := oT g16
  obtain ⟨hC, HF⟩ := hkf g16p
  replace H3 := HF
  refine wM ?_
  refine wO g16 ?_
  refine wV (v_loadN agg24 rfl rfl (H3.ats (by repeat constructor))) ?_
  refine wO g16 ?_
  refine wM ?_
  refine wO g16 ?_
  refine wl_call en53 rfl rfl (dvalue_calls t _ _ _ bd b0 b1 b2 (nms l) name fC (dsr_of hC H3 (by repeat constructor) (by repeat constructor) (by repeat constructor) (by repeat constructor)) (hr.below H3.old) hf) ?_
  rintro _ w4 ⟨rfl, Hc⟩
  have H5 := H3.call0 Hc
  refine wV (v_pick_t rfl g16 rfl) ?_
  refine wA ?_
  refine wl_nil ?_
  refine wc_ret ?_
  first
    | (have q_ := hC
       exact ⟨_, res1 rfl rfl, congrArg Value.bool (dec_iff ⟨fun h => ⟨g16p, h⟩, fun h => h.2⟩), H5.pm (Pm.nil _)⟩)
    | exact ⟨_, res1 rfl rfl, congrArg Value.bool (dec_f fun hh => g16p hh.1).symm, H5.pm (Pm.nil _)⟩
end Go.Proofs.Ytgdemplcpcacaaa.PTyped

/-! The functions answer on the grammar of one production. -/
namespace Go.Proofs.Ytgdemplcpcacaaa.AliveB
open Go Go.RowKit Go.Proofs.YtgdemplcpcacaaaFx Go.Proofs.Ytgdemplcpcacaaa.WriteW Go.Proofs.Ytgdemplcpcacaaa.PValue Go.Proofs.Ytgdemplcpcacaaa.PCheck Go.Proofs.Ytgdemplcpcacaaa.PTyped
theorem agg24 : Agg Try.prog 24 4 := agg_of Try.underlying24 (by kernel_rfl)
theorem agg44 : Agg Try.prog 44 5 := agg_of Try.underlying44 (by kernel_rfl)
theorem ba44 : BuildAt Try.prog 44 [.slice none 0 0, .slice none 0 0, .slice none 0 0, .slice none 0 0, .int .i64 0] [(0, 1), (1, 1), (2, 1), (3, 1), (4, 1)] := build_at Try.underlying44 (by kernel_rfl) (by kernel_rfl)
theorem ba50 : BuildAt Try.prog 50 [.int .i64 0, .int .i64 0, .slice none 0 0] [(0, 1), (1, 1), (2, 1)] := build_at Try.underlying50 (by kernel_rfl) (by kernel_rfl)
theorem ba69 : BuildAt Try.prog 69 [.int .i64 0, .int .i64 0, .string ⟨#[]⟩, .slice none 0 0] [(0, 1), (1, 1), (2, 1), (3, 1)] := build_at Try.underlying69 (by kernel_rfl) (by kernel_rfl)
theorem ba73 : BuildAt Try.prog 73 [.int .i64 0, .slice none 0 0, .int .i64 0, .int .i64 0, .int .i64 0, .string ⟨#[]⟩, .slice none 0 0] [(0, 1), (1, 1), (2, 1), (3, 4)] := build_at Try.underlying73 (by kernel_rfl) (by kernel_rfl)
theorem ba80 : BuildAt Try.prog 80 [.string ⟨#[]⟩, .slice none 0 0] [(0, 1), (1, 1)] := build_at Try.underlying80 (by kernel_rfl) (by kernel_rfl)
theorem ba83 : BuildAt Try.prog 83 [.string ⟨#[]⟩, .slice none 0 0] [(0, 1), (1, 1)] := build_at Try.underlying83 (by kernel_rfl) (by kernel_rfl)
theorem ba85 : BuildAt Try.prog 85 [.int .i64 0, .int .i64 0, .int .i64 0] [(0, 1), (1, 1), (2, 1)] := build_at Try.underlying85 (by kernel_rfl) (by kernel_rfl)
theorem en11 : Enters Try.prog 11 := enters Try.func11 (by kernel_rfl) rfl
theorem en16 : Enters Try.prog 16 := enters Try.func16 (by kernel_rfl) rfl
theorem en19 : Enters Try.prog 19 := enters Try.func19 (by kernel_rfl) rfl
theorem en21 : Enters Try.prog 21 := enters Try.func21 (by kernel_rfl) rfl
theorem info145 : (Try.prog.info? 145).map (fun i => (i.zero, i.size, i.bytes)) = some (some (.agg #[.int .i64 0, .int .i64 0]), 2, 16) := by kernel_rfl
theorem sz24 : ∀ W, (sizeOf 24).run Try.prog W = .ok 4 W := size_of (by kernel_rfl)
theorem sz3 : ∀ W, (sizeOf 3).run Try.prog W = .ok 1 W := size_of (by kernel_rfl)
theorem sz44 : ∀ W, (sizeOf 44).run Try.prog W = .ok 5 W := size_of (by kernel_rfl)
theorem sz50 : ∀ W, (sizeOf 50).run Try.prog W = .ok 3 W := size_of (by kernel_rfl)
theorem sz69 : ∀ W, (sizeOf 69).run Try.prog W = .ok 4 W := size_of (by kernel_rfl)
theorem sz73 : ∀ W, (sizeOf 73).run Try.prog W = .ok 7 W := size_of (by kernel_rfl)
theorem sz80 : ∀ W, (sizeOf 80).run Try.prog W = .ok 2 W := size_of (by kernel_rfl)
theorem sz83 : ∀ W, (sizeOf 83).run Try.prog W = .ok 2 W := size_of (by kernel_rfl)
theorem sz85 : ∀ W, (sizeOf 85).run Try.prog W = .ok 3 W := size_of (by kernel_rfl)
theorem sz9 : ∀ W, (sizeOf 9).run Try.prog W = .ok 1 W := size_of (by kernel_rfl)
theorem zv24 : ∀ W, (zeroValue 24).run Try.prog W = .ok (.agg #[.int .i64 0, .string ⟨#[]⟩, .int .i64 0, .slice none 0 0]) W := zero_of (by kernel_rfl)
theorem zv3 : ∀ W, (zeroValue 3).run Try.prog W = .ok (.int .i64 0) W := zero_of (by kernel_rfl)
theorem zv44 : ∀ W, (zeroValue 44).run Try.prog W = .ok (.agg #[.slice none 0 0, .slice none 0 0, .slice none 0 0, .slice none 0 0, .int .i64 0]) W := zero_of (by kernel_rfl)
theorem zv50 : ∀ W, (zeroValue 50).run Try.prog W = .ok (.agg #[.int .i64 0, .int .i64 0, .slice none 0 0]) W := zero_of (by kernel_rfl)
theorem zv69 : ∀ W, (zeroValue 69).run Try.prog W = .ok (.agg #[.int .i64 0, .int .i64 0, .string ⟨#[]⟩, .slice none 0 0]) W := zero_of (by kernel_rfl)
theorem zv73 : ∀ W, (zeroValue 73).run Try.prog W = .ok (.agg #[.int .i64 0, .slice none 0 0, .int .i64 0, .int .i64 0, .int .i64 0, .string ⟨#[]⟩, .slice none 0 0]) W := zero_of (by kernel_rfl)
theorem zv80 : ∀ W, (zeroValue 80).run Try.prog W = .ok (.agg #[.string ⟨#[]⟩, .slice none 0 0]) W := zero_of (by kernel_rfl)
theorem zv83 : ∀ W, (zeroValue 83).run Try.prog W = .ok (.agg #[.string ⟨#[]⟩, .slice none 0 0]) W := zero_of (by kernel_rfl)
theorem zv85 : ∀ W, (zeroValue 85).run Try.prog W = .ok (.agg #[.int .i64 0, .int .i64 0, .int .i64 0]) W := zero_of (by kernel_rfl)
theorem zv9 : ∀ W, (zeroValue 9).run Try.prog W = .ok (.string ⟨#[]⟩) W := zero_of (by kernel_rfl)

theorem g_check {w : World} {b9 b11 b17 : Nat} {A10 : Option Addr} {b23 b27 : Nat} (h : gG.rd w ⟨some ⟨b9, 0, none⟩, 3, A10, 3, some ⟨b11, 0, none⟩, 1, some ⟨b17, 0, none⟩, 1⟩) (hl : Rd kDt w (some ⟨b23, 0, none⟩) gL) (ht : Rd kStr w (some ⟨b27, 0, none⟩) gTy) : Calls Try.prog 19 #[.agg #[.slice (some ⟨b9, 0, none⟩) 3 3, .slice A10 3 3, .slice (some ⟨b11, 0, none⟩) 1 1, .slice (some ⟨b17, 0, none⟩) 1 1, .int .i64 0], .slice (some ⟨b23, 0, none⟩) 1 1, .slice (some ⟨b27, 0, none⟩) 1 1] w fun e w' => ∃ v, e = .returned v ∧ v = .tuple #[.int .i64 0, .int .i64 0] ∧ Holds w [] w' := by
  refine (pcheck_calls (cd := 1) (kt := 1) gG_okk h gL_ok hl ht (by decide) (by decide)).mono ?_
  rintro e w' ⟨v, he, p, q, rfl, h1, h2, H⟩
  obtain rfl := h1.2 gC
  obtain rfl := h2 rfl
  exact ⟨_, he, rfl, H⟩

theorem g_value {w : World} {b9 b11 b17 : Nat} {A10 : Option Addr} {b34 b36 : Nat} (h : gG.rd w ⟨some ⟨b9, 0, none⟩, 3, A10, 3, some ⟨b11, 0, none⟩, 1, some ⟨b17, 0, none⟩, 1⟩) (hd : Rd (kTr fDv) w (some ⟨b34, 0, none⟩) gD.kids) (hr : Rd (kInt .i64) w (some ⟨b36, 0, none⟩) [2]) : Calls Try.prog 16 #[.agg #[.slice (some ⟨b9, 0, none⟩) 3 3, .slice A10 3 3, .slice (some ⟨b11, 0, none⟩) 1 1, .slice (some ⟨b17, 0, none⟩) 1 1, .int .i64 0], .agg #[.int .i64 0, .int .i64 0, .slice (some ⟨b34, 0, none⟩) 1 1], .slice (some ⟨b36, 0, none⟩) 1 1] w fun e w' => ∃ v, e = .returned v ∧ ∃ A c, v = .tuple #[.agg #[.int .i64 3, .string ⟨#[78]⟩, .int .i64 0, .slice A 1 c], .int .i64 0] ∧ Holds w [ORow fNd 24 (.slice A 1 c) gN.kids] w' := by
  have h1 := pvalue_calls (k := 1) (cr := 1) (d := gD) (row := [2]) gG_okk h hd hr (by decide) (by decide)
  rw [gE.1, gE.2] at h1
  exact h1

theorem g_text {w : World} {b43 c : Nat} {A : Option Addr} (h : Rd fTk.kn w (some ⟨b43, 0, none⟩) gTk) (hr : Rd (kTr fNd) w A gN.kids) : Calls Try.prog 11 #[.agg #[.int .i64 3, .string ⟨#[78]⟩, .int .i64 0, .slice A 1 c], .string gSrc, .slice (some ⟨b43, 0, none⟩) 1 1] w fun e w' => ∃ v, e = .returned v ∧ v = .tuple #[.string ⟨#[78, 40, 34, 55, 34, 41]⟩, .int .i64 0] ∧ Holds w [] w' := by
  have h1 := ptext_calls (src := gSrc) (t := gN) (k := c) (kt := 1) (by decide) (by decide) h hr gN_small (by decide)
  rw [gX.1, gX.2] at h1
  exact h1

theorem g_typed {w : World} {b23 c : Nat} {A : Option Addr} (hl : Rd kDt w (some ⟨b23, 0, none⟩) gL) (hr : Rd (kTr fNd) w A gN.kids) : Calls Try.prog 21 #[.slice (some ⟨b23, 0, none⟩) 1 1, .agg #[.int .i64 3, .string ⟨#[78]⟩, .int .i64 0, .slice A 1 c], .string ⟨#[69]⟩] w fun e w' => ∃ v, e = .returned v ∧ v = .bool true ∧ Holds w [] w' := by
  have h1 := ptyped_calls (cd := 1) (k := c) (t := gN) (name := ⟨#[69]⟩) gL_ok hl hr gN_small
  rw [dec_t (show TypedOk gL gN ⟨#[69]⟩ from ⟨gL_e, gF⟩)] at h1
  exact h1

set_option maxHeartbeats 6400000 in
set_option maxRecDepth 100000 in
theorem alive_calls {w : World} : Calls Try.prog 10 #[] w fun e w' => ∃ v, e = .returned v ∧ v = .bool true ∧ Holds w [] w' := by
  refine calls_of Try.func10 rfl Try.ntmps10 rfl ?_
  have H := Holds.start w
  refine wcR ?_
  refine wA ?_
  refine wl_nil ?_
  refine wcR ?_
  refine wl_slit (v := .string ⟨#[]⟩) (z := [.string ⟨#[]⟩, .string ⟨#[]⟩, .string ⟨#[]⟩]) (cs := [.string ⟨#[101, 110, 100]⟩, .string ⟨#[101, 114, 114, 111, 114]⟩, .string ⟨#[110]⟩]) (sz := 1) H rfl Try.underlying40 sz9 zv9 (by decide) (by decide) (by kernel_rfl) rfl (by repeat constructor) ?_
  intro b9 w1 hb9 H1 hs1
  refine wl_make (f := fMv) (z' := mv0) (e := 145) (q := 3) H1 rfl Try.underlying41 info145 rfl (by decide) rfl rfl (by decide) (by decide) (by decide) ?_
  intro A10 w2 H2 hs2
  refine wl_slit (v := .string ⟨#[]⟩) (z := [.string ⟨#[]⟩]) (cs := [.string ⟨#[101]⟩]) (sz := 1) H2 rfl Try.underlying40 sz9 zv9 (by decide) (by decide) (by kernel_rfl) rfl (by repeat constructor) ?_
  intro b11 w3 hb11 H3 hs3
  refine wl_slit (v := .int .i64 0) (z := [.int .i64 0]) (cs := [.int .i64 2]) (sz := 1) H3 rfl Try.underlying51 sz3 zv3 (by decide) (by decide) (by kernel_rfl) rfl (by repeat constructor) ?_
  intro b12 w4 hb12 H4 hs4
  refine wV (v_bld ba69 rfl (by repeat constructor)) ?_
  refine wl_slit (v := .agg #[.int .i64 0, .int .i64 0, .string ⟨#[]⟩, .slice none 0 0]) (z := [.int .i64 0, .int .i64 0, .string ⟨#[]⟩, .slice none 0 0]) (cs := [.int .i64 1, .int .i64 0, .string ⟨#[]⟩, .slice none 0 0]) (sz := 4) H4 rfl Try.underlying67 sz69 zv69 (by decide) (by decide) (by kernel_rfl) rfl (by repeat constructor) ?_
  intro b14 w5 hb14 H5 hs5
  refine wV (v_bld ba69 rfl (by repeat constructor)) ?_
  refine wV (v_bld ba73 rfl (by repeat constructor)) ?_
  refine wl_slit (v := .agg #[.int .i64 0, .slice none 0 0, .int .i64 0, .int .i64 0, .int .i64 0, .string ⟨#[]⟩, .slice none 0 0]) (z := [.int .i64 0, .slice none 0 0, .int .i64 0, .int .i64 0, .int .i64 0, .string ⟨#[]⟩, .slice none 0 0]) (cs := [.int .i64 0, .slice (some ⟨b12, 0, none⟩) 1 1, .int .i64 0, .int .i64 2, .int .i64 0, .string ⟨#[78]⟩, .slice (some ⟨b14, 0, none⟩) 1 1]) (sz := 7) H5 rfl Try.underlying42 sz73 zv73 (by decide) (by decide) (by kernel_rfl) rfl (by repeat constructor) ?_
  intro b17 w6 hb17 H6 hs6
  refine wV (v_bld ba44 rfl (by repeat constructor)) ?_
  refine wl_alloc (cs := [.slice none 0 0, .slice none 0 0, .slice none 0 0, .slice none 0 0, .int .i64 0]) H6 rfl zv44 rfl ?_
  intro b1 w7 hb1 H8
  refine wl_store (vs := [_, _, _, _, _]) H8 (by repeat constructor) sz44 rfl rfl rfl rfl rfl (by (repeat constructor)) ?_
  intro w9 H10 hw9
  refine wl_nil ?_
  refine wcR ?_
  refine wl_slit (v := .string ⟨#[]⟩) (z := [.string ⟨#[]⟩]) (cs := [.string tx]) (sz := 1) H10 rfl Try.underlying40 sz9 zv9 (by decide) (by decide) (by kernel_rfl) rfl (by repeat constructor) ?_
  intro b19 w11 hb19 H11 hs11
  refine wV (v_bld ba80 rfl (by repeat constructor)) ?_
  refine wl_slit (v := .agg #[.string ⟨#[]⟩, .slice none 0 0]) (z := [.string ⟨#[]⟩, .slice none 0 0]) (cs := [.string ⟨#[78]⟩, .slice (some ⟨b19, 0, none⟩) 1 1]) (sz := 2) H11 rfl Try.underlying81 sz80 zv80 (by decide) (by decide) (by kernel_rfl) rfl (by repeat constructor) ?_
  intro b21 w12 hb21 H12 hs12
  refine wV (v_bld ba83 rfl (by repeat constructor)) ?_
  refine wl_slit (v := .agg #[.string ⟨#[]⟩, .slice none 0 0]) (z := [.string ⟨#[]⟩, .slice none 0 0]) (cs := [.string ⟨#[69]⟩, .slice (some ⟨b21, 0, none⟩) 1 1]) (sz := 2) H12 rfl Try.underlying45 sz83 zv83 (by decide) (by decide) (by kernel_rfl) rfl (by repeat constructor) ?_
  intro b23 w13 hb23 H13 hs13
  refine wA ?_
  refine wl_nil ?_
  refine wcR ?_
  refine wV (v_loadN agg44 rfl rfl (H13.ats (by repeat constructor))) ?_
  refine wM ?_
  refine wl_slit (v := .string ⟨#[]⟩) (z := [.string ⟨#[]⟩]) (cs := [.string ⟨#[69]⟩]) (sz := 1) H13 rfl Try.underlying40 sz9 zv9 (by decide) (by decide) (by kernel_rfl) rfl (by repeat constructor) ?_
  intro b27 w14 hb27 H14 hs14
  refine wl_call en19 rfl rfl (g_check (gG_rd (b12 := b12) (b14 := b14) H14 (by repeat constructor) (by repeat constructor) (by repeat constructor) (by repeat constructor) (by repeat constructor) (by repeat constructor)) (gL_rd H14 (by repeat constructor) (by repeat constructor) (by repeat constructor)) (gTy_rd H14 (by repeat constructor))) ?_
  rintro _ w15 ⟨rfl, Hc⟩
  have H16 := H14.call0 Hc
  refine wM ?_
  refine wV (v_extract rfl rfl) ?_
  refine wV (v_extract rfl rfl) ?_
  refine wA ?_
  refine wA ?_
  refine wl_nil ?_
  refine wcR ?_
  refine wV (v_loadN agg44 rfl rfl (H16.ats (by repeat constructor))) ?_
  refine wV (v_bld ba50 rfl (by repeat constructor)) ?_
  refine wl_slit (v := .agg #[.int .i64 0, .int .i64 0, .slice none 0 0]) (z := [.int .i64 0, .int .i64 0, .slice none 0 0]) (cs := [.int .i64 (-1), .int .i64 0, .slice none 0 0]) (sz := 3) H16 rfl Try.underlying48 sz50 zv50 (by decide) (by decide) (by kernel_rfl) rfl (by repeat constructor) ?_
  intro b34 w17 hb34 H17 hs17
  refine wV (v_bld ba50 rfl (by repeat constructor)) ?_
  refine wl_slit (v := .int .i64 0) (z := [.int .i64 0]) (cs := [.int .i64 2]) (sz := 1) H17 rfl Try.underlying51 sz3 zv3 (by decide) (by decide) (by kernel_rfl) rfl (by repeat constructor) ?_
  intro b36 w18 hb36 H18 hs18
  refine wl_call en16 rfl rfl (g_value (gG_rd (b12 := b12) (b14 := b14) H18 (by repeat constructor) (by repeat constructor) (by repeat constructor) (by repeat constructor) (by repeat constructor) (by repeat constructor)) (gD_rd H18 (by repeat constructor)) (gRow_rd (b := b36) H18 (by repeat constructor))) ?_
  rintro _ w19 ⟨A5, c5, rfl, Hc⟩
  have H20 := H18.call Hc
  refine wM ?_
  refine wV (v_extract rfl rfl) ?_
  refine wV (v_extract rfl rfl) ?_
  refine wl_alloc (cs := [.int .i64 0, .string ⟨#[]⟩, .int .i64 0, .slice none 0 0]) H20 rfl zv24 rfl ?_
  intro b5 w21 hb5 H22
  refine wl_store (vs := [_, _, _, _]) H22 (by repeat constructor) sz24 rfl rfl rfl rfl rfl (by (repeat constructor)) ?_
  intro w23 H24 hw23
  refine wA ?_
  refine wl_nil ?_
  refine wcR ?_
  refine wV (v_loadN agg24 rfl rfl (H24.ats (by repeat constructor))) ?_
  refine wV (v_bld ba85 rfl (by repeat constructor)) ?_
  refine wl_slit (v := .agg #[.int .i64 0, .int .i64 0, .int .i64 0]) (z := [.int .i64 0, .int .i64 0, .int .i64 0]) (cs := [.int .i64 2, .int .i64 0, .int .i64 1]) (sz := 3) H24 rfl Try.underlying25 sz85 zv85 (by decide) (by decide) (by kernel_rfl) rfl (by repeat constructor) ?_
  intro b43 w25 hb43 H25 hs25
  refine wl_call en11 rfl rfl (g_text (gTk_rd H25 (by repeat constructor)) (H25.oRd (f := fNd) (e := 24) (x := ⟨0, ⟨#[]⟩, 0⟩) (by repeat constructor))) ?_
  rintro _ w26 ⟨rfl, Hc⟩
  have H27 := H25.call0 Hc
  refine wM ?_
  refine wV (v_extract rfl rfl) ?_
  refine wV (v_extract rfl rfl) ?_
  refine wA ?_
  refine wA ?_
  refine wl_nil ?_
  refine wcR ?_
  refine wM ?_
  refine wV (v_eql rfl rfl) ?_
  refine wM ?_
  refine wl_guard rfl rfl rfl (fun g49 => ?_) (fun g49 => ?_)
  rotate_left
  ·have g49p := oF g49
   exact absurd g49 (by decide)
  have g49p := oT g49
  refine wM ?_
  refine wO g49 ?_
  refine wV (v_eql rfl rfl) ?_
  refine wV (v_pick_t rfl g49 rfl) ?_
  refine wM ?_
  refine wl_guard rfl rfl rfl (fun g53 => ?_) (fun g53 => ?_)
  rotate_left
  ·have g53p := oF g53
   exact absurd g53 (by decide)
  have g53p := oT g53
  refine wM ?_
  refine wO g53 ?_
  refine wV (v_eql rfl rfl) ?_
  refine wV (v_pick_t rfl g53 rfl) ?_
  refine wM ?_
  refine wl_guard rfl rfl rfl (fun g57 => ?_) (fun g57 => ?_)
  rotate_left
  ·have g57p := oF g57
   exact absurd g57 (by decide)
  have g57p := oT g57
  refine wM ?_
  refine wO g57 ?_
  refine wV (v_eqls rfl rfl) ?_
  refine wV (v_pick_t rfl g57 rfl) ?_
  refine wM ?_
  refine wl_guard rfl rfl rfl (fun g61 => ?_) (fun g61 => ?_)
  rotate_left
  ·have g61p := oF g61
   exact absurd g61 (by decide)
  have g61p := oT g61
  refine wM ?_
  refine wO g61 ?_
  refine wV (v_eql rfl rfl) ?_
  refine wV (v_pick_t rfl g61 rfl) ?_
  refine wM ?_
  refine wl_guard rfl rfl rfl (fun g65 => ?_) (fun g65 => ?_)
  rotate_left
  ·have g65p := oF g65
   exact absurd g65 (by decide)
  have g65p := oT g65
  refine wM ?_
  refine wO g65 ?_
  refine wV (v_loadN agg24 rfl rfl (H27.ats (by repeat constructor))) ?_
  refine wO g65 ?_
  refine wl_call en21 rfl rfl (g_typed (gL_rd H27 (by repeat constructor) (by repeat constructor) (by repeat constructor)) (H27.oRd (f := fNd) (e := 24) (x := ⟨0, ⟨#[]⟩, 0⟩) (by repeat constructor))) ?_
  rintro _ w28 ⟨rfl, Hc⟩
  have H29 := H27.call0 Hc
  refine wV (v_pick_t rfl g65 rfl) ?_
  refine wA ?_
  refine wl_nil ?_
  refine wc_ret ?_
  exact ⟨_, res1 rfl rfl, rfl, H29.pm (by repeat (first | exact pm_refl _ | constructor | refine pm_skip ?_))⟩
end Go.Proofs.Ytgdemplcpcacaaa.AliveB
