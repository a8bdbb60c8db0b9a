/- A node's type: the program's answer. The functions answer on the grammar of one production. Pieces of texts, as the document finds them. Slices cut. Numbers, seven bits a byte: plain; bit operations and divisions. Numbers of 32 bits, as natural numbers. -/
import Derived.Test.YtgdemplcpcacaaaProg
import Derived.Test.YtgdemplcpcacaaaK12
import Derived.Test.YtgdemplcpcacaaaK03
import Derived.Test.YtgdemplcpcacaaaK06
import Derived.Test.YtgdemplcpcacaaaK11
import Derived.Test.YtgdemplcpcacaaaK02
import Derived.Laws.BitsLemmas
import Derived.Laws.BitsAllLaws
set_option linter.unusedVariables false
set_option linter.unusedSimpArgs false
/-! A node's type: the program's answer. -/
namespace Go.Proofs.Ytgdemplcpcacaaa.PTyped
open Go Go.RowKit Go.Proofs.YtgdemplcpcacaaaFx Go.Proofs.Ytgdemplcpcacaaa.NameW Go.Proofs.Ytgdemplcpcacaaa.KindsW Go.Proofs.Ytgdemplcpcacaaa.KnownD Go.Proofs.Ytgdemplcpcacaaa.TypD
theorem agg24 : Agg Try.prog 24 4 := agg_of Try.underlying24 (by kernel_rfl)
theorem en48 : Enters Try.prog 48 := enters Try.func48 (by kernel_rfl) rfl
theorem en53 : Enters Try.prog 53 := enters Try.func53 (by kernel_rfl) rfl
theorem fa126_1 : FieldAt Try.prog 126 1 1 := field_at (sz := 0) Try.underlying126 rfl (by kernel_rfl) rfl
theorem fa126_2 : FieldAt Try.prog 126 2 2 := field_at (sz := 0) Try.underlying126 rfl (by kernel_rfl) rfl
theorem fa24_0 : FieldAt Try.prog 24 0 0 := field_at (sz := 0) Try.underlying24 rfl (by kernel_rfl) rfl
theorem fa24_1 : FieldAt Try.prog 24 1 1 := field_at (sz := 0) Try.underlying24 rfl (by kernel_rfl) rfl
theorem fa24_2 : FieldAt Try.prog 24 2 2 := field_at (sz := 0) Try.underlying24 rfl (by kernel_rfl) rfl
theorem fa24_3 : FieldAt Try.prog 24 3 3 := field_at (sz := 0) Try.underlying24 rfl (by kernel_rfl) rfl
theorem fa80_1 : FieldAt Try.prog 80 1 1 := field_at (sz := 0) Try.underlying80 rfl (by kernel_rfl) rfl
theorem mixed : Try.prog.follows .mixedOrders = true := by kernel_rfl
theorem one123 : One Try.prog 123 := one_of Try.underlying123 rfl (by kernel_rfl)
theorem one124 : One Try.prog 124 := one_of Try.underlying124 rfl (by kernel_rfl)
theorem one22 : One Try.prog 22 := one_of Try.underlying22 rfl (by kernel_rfl)
theorem one3 : One Try.prog 3 := one_of Try.underlying3 rfl (by kernel_rfl)
theorem one40 : One Try.prog 40 := one_of Try.underlying40 rfl (by kernel_rfl)
theorem one9 : One Try.prog 9 := one_of Try.underlying9 rfl (by kernel_rfl)
theorem sz24 : ∀ W, (sizeOf 24).run Try.prog W = .ok 4 W := size_of (by kernel_rfl)
theorem sz80 : ∀ W, (sizeOf 80).run Try.prog W = .ok 2 W := size_of (by kernel_rfl)
theorem sz9 : ∀ W, (sizeOf 9).run Try.prog W = .ok 1 W := size_of (by kernel_rfl)
theorem zv24 : ∀ W, (zeroValue 24).run Try.prog W = .ok (.agg #[.int .i64 0, .string ⟨#[]⟩, .int .i64 0, .slice none 0 0]) W := zero_of (by kernel_rfl)
theorem zv80 : ∀ W, (zeroValue 80).run Try.prog W = .ok (.agg #[.string ⟨#[]⟩, .slice none 0 0]) W := zero_of (by kernel_rfl)
theorem zv9 : ∀ W, (zeroValue 9).run Try.prog W = .ok (.string ⟨#[]⟩) W := zero_of (by kernel_rfl)

def ValDOk (P : List (ByteArray × Ct)) (t : Nd) : Prop := ∀ (w : World) (B : Option Addr) (k bd b0 b1 b2 : Nat) (ns : List ByteArray) (name : ByteArray) (fC : ByteArray → Option Value) (hds : DsR w bd b0 b1 b2 ns P fC) (hr : Rd (kTr fNd) w B t.kids) (hf : t.All smallN), Calls Try.prog 53 #[.pointer (some ⟨bd, 0, none⟩), .agg #[.int .i64 t.x.kind, .string t.x.name, .int .i64 t.x.tok, .slice B t.kids.length k], .string name] w fun e w' => ∃ v, e = .returned v ∧ v = .bool (dec (fitN P t name)) ∧ Holds w [] w'

set_option maxHeartbeats 6400000 in
set_option maxRecDepth 100000 in
theorem dvalue_step {P : List (ByteArray × Ct)} {t : Nd} {w : World} {B : Option Addr} {k bd b0 b1 b2 : Nat} {ns : List ByteArray} {name : ByteArray} {fC : ByteArray → Option Value} (hds : DsR w bd b0 b1 b2 ns P fC) (hr : Rd (kTr fNd) w B t.kids) (hf : t.All smallN) (ih : ∀ t' ∈ t.kids, ValDOk P t') : Calls Try.prog 53 #[.pointer (some ⟨bd, 0, none⟩), .agg #[.int .i64 t.x.kind, .string t.x.name, .int .i64 t.x.tok, .slice B t.kids.length k], .string name] w fun e w' => ∃ v, e = .returned v ∧ v = .bool (dec (fitN P t name)) ∧ Holds w [] w' := by
  obtain ⟨⟨hsz, hkk⟩, hks⟩ := (Tr.All_eq t).1 hf
  have hdc := hds.c
  have hC := hds.r
  obtain ⟨N1, S1, hM1⟩ := hds.m1
  obtain ⟨N2, S2, hM2⟩ := hds.m2
  refine calls_of Try.func53 rfl Try.ntmps53 rfl ?_
  have H := Holds.start w
  refine wcR ?_
  refine wl_box (cs := [_, _, _, _]) H rfl rfl rfl ?_
  intro b4 w1 hb4 H2
  refine wA ?_
  refine wl_nil ?_
  refine wc_seq ?_
  refine wcR ?_
  refine wV (v_fb (o2 := 0) fa24_0 rfl rfl) ?_
  refine wV (v_load one3 rfl (H2.at (by repeat constructor) rfl)) ?_
  refine wl_nil ?_
  refine wc_block ?_
  refine wcR ?_
  refine wV (v_eql rfl rfl) ?_
  refine wA ?_
  refine wl_nil ?_
  refine wc_cond rfl (fun c0 => ?_) (fun c0 => ?_)
  ·have c0p := oT c0
   refine wcR ?_
   refine wM ?_
   refine wV (v_eqls rfl rfl) ?_
   refine wM ?_
   refine wl_guard rfl rfl rfl (fun g17 => ?_) (fun g17 => ?_)
   rotate_left
   ·have g17p := oF g17
    refine wF g17 ?_
    refine wF g17 ?_
    refine wV (v_pick_f rfl g17 rfl) ?_
    refine wM ?_
    refine wF rfl ?_
    refine wF rfl ?_
    refine wF rfl ?_
    refine wV (v_pick_f rfl rfl rfl) ?_
    refine wM ?_
    refine wF rfl ?_
    refine wF rfl ?_
    refine wF rfl ?_
    refine wF rfl ?_
    refine wV (v_pick_f rfl rfl rfl) ?_
    refine wA ?_
    refine wl_nil ?_
    refine wc_ret ?_
    first
      | (have q_ := c0p
         first
           | exact ⟨_, res1 rfl rfl, congrArg Value.bool (dec_eq ⟨fun hd => (fit0 c0p).2 ⟨g17p, g22p, by omega, by (have h_ := oT hd; omega)⟩, fun hh => decide_eq_true (by have h_ := (fit0 c0p).1 hh; omega)⟩), H2.pm (Pm.nil _)⟩
           | exact ⟨_, res1 rfl rfl, congrArg Value.bool (dec_f fun hh => by (have h_ := (fit0 c0p).1 hh; first | omega | exact g17p h_.1 | exact g22p h_.2.1)).symm, H2.pm (Pm.nil _)⟩)
      | (have q_ := c1p
         first
           | exact ⟨_, res1 rfl rfl, congrArg Value.bool (dec_eq ⟨fun hd => (fit1 c1p).2 ⟨g37p, by omega, g47p, by (have h_ := oT hd; omega)⟩, fun hh => decide_eq_true (by have h_ := (fit1 c1p).1 hh; omega)⟩), H2.pm (Pm.nil _)⟩
           | exact ⟨_, res1 rfl rfl, congrArg Value.bool (dec_f fun hh => by (have h_ := (fit1 c1p).1 hh; first | omega | exact g37p h_.1 | exact g47p h_.2.2.1)).symm, H2.pm (Pm.nil _)⟩)
      | (have q_ := c2p
         first
           | exact ⟨_, res1 rfl rfl, congrArg Value.bool (dec_eq ⟨fun hd => (fit2 c2p).2 ⟨g57p, by omega, by (have h_ := oT hd; omega)⟩, fun hh => decide_eq_true (by have h_ := (fit2 c2p).1 hh; omega)⟩), H2.pm (Pm.nil _)⟩
           | exact ⟨_, res1 rfl rfl, congrArg Value.bool (dec_f fun hh => by (have h_ := (fit2 c2p).1 hh; first | omega | exact g57p h_.1 | exact g57p h_.1)).symm, H2.pm (Pm.nil _)⟩)
      | exact ⟨_, res1 rfl rfl, congrArg Value.bool (dec_f (fitx c0p c1p c2p c3p)).symm, H2.pm (Pm.nil _)⟩
      | (have q_ := c6p
         exact ⟨_, res1 rfl rfl, congrArg Value.bool (dec_f fun hh => of_ndec (of_n_t c6) ((fitNs_iff _ _).1 ((fit3_f c3p hp).1 hh).2.2.2 i hin)).symm, H2.pm (Pm.nil _)⟩)
      | (have q_ := c5p
         exact ⟨_, res1 rfl rfl, congrArg Value.bool (dec_t ((fit3_f c3p hp).2 ⟨g93p, by omega, by omega, (fitNs_iff _ _).2 fun j hj => ha j (by omega)⟩)).symm, H2.pm (Pm.nil _)⟩)
      | (exact ⟨_, res1 rfl rfl, congrArg Value.bool (dec_f fun hh => by
           obtain ⟨p, hp, h1_, h2_, h3_, _⟩ := (fit3 c3p).1 hh
           first
             | (have h_ := hq4.symm.trans g82p; rw [hp] at h_; cases h_; done)
             | (rw [ofF_get hp] at g93p; exact g93p h1_)
             | omega
             | (have h_ := hq5 p hp; rw [h_] at c4p; omega)).symm, H2.pm (Pm.nil _)⟩)
   have g17p := oT g17
   refine wV (v_fb (o2 := 1) fa24_1 rfl rfl) ?_
   refine wO g17 ?_
   refine wV (v_load one9 rfl (H2.at (by repeat constructor) rfl)) ?_
   refine wO g17 ?_
   refine wV (v_eqls rfl rfl) ?_
   refine wV (v_pick_t rfl g17 rfl) ?_
   refine wM ?_
   refine wl_guard rfl rfl rfl (fun g22 => ?_) (fun g22 => ?_)
   rotate_left
   ·have g22p := oF g22
    refine wF g22 ?_
    refine wF g22 ?_
    refine wV (v_pick_f rfl g22 rfl) ?_
    refine wM ?_
    refine wF rfl ?_
    refine wF rfl ?_
    refine wF rfl ?_
    refine wF rfl ?_
    refine wV (v_pick_f rfl rfl rfl) ?_
    refine wA ?_
    refine wl_nil ?_
    refine wc_ret ?_
    first
      | (have q_ := c0p
         first
           | exact ⟨_, res1 rfl rfl, congrArg Value.bool (dec_eq ⟨fun hd => (fit0 c0p).2 ⟨g17p, g22p, by omega, by (have h_ := oT hd; omega)⟩, fun hh => decide_eq_true (by have h_ := (fit0 c0p).1 hh; omega)⟩), H2.pm (Pm.nil _)⟩
           | exact ⟨_, res1 rfl rfl, congrArg Value.bool (dec_f fun hh => by (have h_ := (fit0 c0p).1 hh; first | omega | exact g17p h_.1 | exact g22p h_.2.1)).symm, H2.pm (Pm.nil _)⟩)
      | (have q_ := c1p
         first
           | exact ⟨_, res1 rfl rfl, congrArg Value.bool (dec_eq ⟨fun hd => (fit1 c1p).2 ⟨g37p, by omega, g47p, by (have h_ := oT hd; omega)⟩, fun hh => decide_eq_true (by have h_ := (fit1 c1p).1 hh; omega)⟩), H2.pm (Pm.nil _)⟩
           | exact ⟨_, res1 rfl rfl, congrArg Value.bool (dec_f fun hh => by (have h_ := (fit1 c1p).1 hh; first | omega | exact g37p h_.1 | exact g47p h_.2.2.1)).symm, H2.pm (Pm.nil _)⟩)
      | (have q_ := c2p
         first
           | exact ⟨_, res1 rfl rfl, congrArg Value.bool (dec_eq ⟨fun hd => (fit2 c2p).2 ⟨g57p, by omega, by (have h_ := oT hd; omega)⟩, fun hh => decide_eq_true (by have h_ := (fit2 c2p).1 hh; omega)⟩), H2.pm (Pm.nil _)⟩
           | exact ⟨_, res1 rfl rfl, congrArg Value.bool (dec_f fun hh => by (have h_ := (fit2 c2p).1 hh; first | omega | exact g57p h_.1 | exact g57p h_.1)).symm, H2.pm (Pm.nil _)⟩)
      | exact ⟨_, res1 rfl rfl, congrArg Value.bool (dec_f (fitx c0p c1p c2p c3p)).symm, H2.pm (Pm.nil _)⟩
      | (have q_ := c6p
         exact ⟨_, res1 rfl rfl, congrArg Value.bool (dec_f fun hh => of_ndec (of_n_t c6) ((fitNs_iff _ _).1 ((fit3_f c3p hp).1 hh).2.2.2 i hin)).symm, H2.pm (Pm.nil _)⟩)
      | (have q_ := c5p
         exact ⟨_, res1 rfl rfl, congrArg Value.bool (dec_t ((fit3_f c3p hp).2 ⟨g93p, by omega, by omega, (fitNs_iff _ _).2 fun j hj => ha j (by omega)⟩)).symm, H2.pm (Pm.nil _)⟩)
      | (exact ⟨_, res1 rfl rfl, congrArg Value.bool (dec_f fun hh => by
           obtain ⟨p, hp, h1_, h2_, h3_, _⟩ := (fit3 c3p).1 hh
           first
             | (have h_ := hq4.symm.trans g82p; rw [hp] at h_; cases h_; done)
             | (rw [ofF_get hp] at g93p; exact g93p h1_)
             | omega
             | (have h_ := hq5 p hp; rw [h_] at c4p; omega)).symm, H2.pm (Pm.nil _)⟩)
   have g22p := oT g22
   refine wV (v_fb (o2 := 2) fa24_2 rfl rfl) ?_
   refine wO g22 ?_
   refine wV (v_load one3 rfl (H2.at (by repeat constructor) rfl)) ?_
   refine wO g22 ?_
   refine wV (v_eql rfl rfl) ?_
   refine wV (v_pick_t rfl g22 rfl) ?_
   refine wM ?_
   refine wl_guard rfl rfl rfl (fun g27 => ?_) (fun g27 => ?_)
   rotate_left
   ·have g27p := oF g27
    refine wF g27 ?_
    refine wF g27 ?_
    refine wF g27 ?_
    refine wV (v_pick_f rfl g27 rfl) ?_
    refine wA ?_
    refine wl_nil ?_
    refine wc_ret ?_
    first
      | (have q_ := c0p
         first
           | exact ⟨_, res1 rfl rfl, congrArg Value.bool (dec_eq ⟨fun hd => (fit0 c0p).2 ⟨g17p, g22p, by omega, by (have h_ := oT hd; omega)⟩, fun hh => decide_eq_true (by have h_ := (fit0 c0p).1 hh; omega)⟩), H2.pm (Pm.nil _)⟩
           | exact ⟨_, res1 rfl rfl, congrArg Value.bool (dec_f fun hh => by (have h_ := (fit0 c0p).1 hh; first | omega | exact g17p h_.1 | exact g22p h_.2.1)).symm, H2.pm (Pm.nil _)⟩)
      | (have q_ := c1p
         first
           | exact ⟨_, res1 rfl rfl, congrArg Value.bool (dec_eq ⟨fun hd => (fit1 c1p).2 ⟨g37p, by omega, g47p, by (have h_ := oT hd; omega)⟩, fun hh => decide_eq_true (by have h_ := (fit1 c1p).1 hh; omega)⟩), H2.pm (Pm.nil _)⟩
           | exact ⟨_, res1 rfl rfl, congrArg Value.bool (dec_f fun hh => by (have h_ := (fit1 c1p).1 hh; first | omega | exact g37p h_.1 | exact g47p h_.2.2.1)).symm, H2.pm (Pm.nil _)⟩)
      | (have q_ := c2p
         first
           | exact ⟨_, res1 rfl rfl, congrArg Value.bool (dec_eq ⟨fun hd => (fit2 c2p).2 ⟨g57p, by omega, by (have h_ := oT hd; omega)⟩, fun hh => decide_eq_true (by have h_ := (fit2 c2p).1 hh; omega)⟩), H2.pm (Pm.nil _)⟩
           | exact ⟨_, res1 rfl rfl, congrArg Value.bool (dec_f fun hh => by (have h_ := (fit2 c2p).1 hh; first | omega | exact g57p h_.1 | exact g57p h_.1)).symm, H2.pm (Pm.nil _)⟩)
      | exact ⟨_, res1 rfl rfl, congrArg Value.bool (dec_f (fitx c0p c1p c2p c3p)).symm, H2.pm (Pm.nil _)⟩
      | (have q_ := c6p
         exact ⟨_, res1 rfl rfl, congrArg Value.bool (dec_f fun hh => of_ndec (of_n_t c6) ((fitNs_iff _ _).1 ((fit3_f c3p hp).1 hh).2.2.2 i hin)).symm, H2.pm (Pm.nil _)⟩)
      | (have q_ := c5p
         exact ⟨_, res1 rfl rfl, congrArg Value.bool (dec_t ((fit3_f c3p hp).2 ⟨g93p, by omega, by omega, (fitNs_iff _ _).2 fun j hj => ha j (by omega)⟩)).symm, H2.pm (Pm.nil _)⟩)
      | (exact ⟨_, res1 rfl rfl, congrArg Value.bool (dec_f fun hh => by
           obtain ⟨p, hp, h1_, h2_, h3_, _⟩ := (fit3 c3p).1 hh
           first
             | (have h_ := hq4.symm.trans g82p; rw [hp] at h_; cases h_; done)
             | (rw [ofF_get hp] at g93p; exact g93p h1_)
             | omega
             | (have h_ := hq5 p hp; rw [h_] at c4p; omega)).symm, H2.pm (Pm.nil _)⟩)
   have g27p := oT g27
   refine wV (v_fb (o2 := 3) fa24_3 rfl rfl) ?_
   refine wO g27 ?_
   refine wV (v_load one22 rfl (H2.at (by repeat constructor) rfl)) ?_
   refine wO g27 ?_
   refine wV (v_len Try.underlying22 rfl) ?_
   refine wO g27 ?_
   refine wV (v_eql rfl rfl) ?_
   refine wV (v_pick_t rfl g27 rfl) ?_
   refine wA ?_
   refine wl_nil ?_
   refine wc_ret ?_
   first
     | (have q_ := c0p
        first
          | exact ⟨_, res1 rfl rfl, congrArg Value.bool (dec_eq ⟨fun hd => (fit0 c0p).2 ⟨g17p, g22p, by omega, by (have h_ := oT hd; omega)⟩, fun hh => decide_eq_true (by have h_ := (fit0 c0p).1 hh; omega)⟩), H2.pm (Pm.nil _)⟩
          | exact ⟨_, res1 rfl rfl, congrArg Value.bool (dec_f fun hh => by (have h_ := (fit0 c0p).1 hh; first | omega | exact g17p h_.1 | exact g22p h_.2.1)).symm, H2.pm (Pm.nil _)⟩)
     | (have q_ := c1p
        first
          | exact ⟨_, res1 rfl rfl, congrArg Value.bool (dec_eq ⟨fun hd => (fit1 c1p).2 ⟨g37p, by omega, g47p, by (have h_ := oT hd; omega)⟩, fun hh => decide_eq_true (by have h_ := (fit1 c1p).1 hh; omega)⟩), H2.pm (Pm.nil _)⟩
          | exact ⟨_, res1 rfl rfl, congrArg Value.bool (dec_f fun hh => by (have h_ := (fit1 c1p).1 hh; first | omega | exact g37p h_.1 | exact g47p h_.2.2.1)).symm, H2.pm (Pm.nil _)⟩)
     | (have q_ := c2p
        first
          | exact ⟨_, res1 rfl rfl, congrArg Value.bool (dec_eq ⟨fun hd => (fit2 c2p).2 ⟨g57p, by omega, by (have h_ := oT hd; omega)⟩, fun hh => decide_eq_true (by have h_ := (fit2 c2p).1 hh; omega)⟩), H2.pm (Pm.nil _)⟩
          | exact ⟨_, res1 rfl rfl, congrArg Value.bool (dec_f fun hh => by (have h_ := (fit2 c2p).1 hh; first | omega | exact g57p h_.1 | exact g57p h_.1)).symm, H2.pm (Pm.nil _)⟩)
     | exact ⟨_, res1 rfl rfl, congrArg Value.bool (dec_f (fitx c0p c1p c2p c3p)).symm, H2.pm (Pm.nil _)⟩
     | (have q_ := c6p
        exact ⟨_, res1 rfl rfl, congrArg Value.bool (dec_f fun hh => of_ndec (of_n_t c6) ((fitNs_iff _ _).1 ((fit3_f c3p hp).1 hh).2.2.2 i hin)).symm, H2.pm (Pm.nil _)⟩)
     | (have q_ := c5p
        exact ⟨_, res1 rfl rfl, congrArg Value.bool (dec_t ((fit3_f c3p hp).2 ⟨g93p, by omega, by omega, (fitNs_iff _ _).2 fun j hj => ha j (by omega)⟩)).symm, H2.pm (Pm.nil _)⟩)
     | (exact ⟨_, res1 rfl rfl, congrArg Value.bool (dec_f fun hh => by
          obtain ⟨p, hp, h1_, h2_, h3_, _⟩ := (fit3 c3p).1 hh
          first
            | (have h_ := hq4.symm.trans g82p; rw [hp] at h_; cases h_; done)
            | (rw [ofF_get hp] at g93p; exact g93p h1_)
            | omega
            | (have h_ := hq5 p hp; rw [h_] at c4p; omega)).symm, H2.pm (Pm.nil _)⟩)
  have c0p := oF c0
  refine wcR ?_
  refine wV (v_eql rfl rfl) ?_
  refine wA ?_
  refine wl_nil ?_
  refine wc_cond rfl (fun c1 => ?_) (fun c1 => ?_)
  ·have c1p := oT c1
   refine wcR ?_
   refine wM ?_
   refine wV (v_eqls rfl rfl) ?_
   refine wM ?_
   refine wl_guard rfl rfl rfl (fun g37 => ?_) (fun g37 => ?_)
   rotate_left
   ·have g37p := oF g37
    refine wF g37 ?_
    refine wF g37 ?_
    refine wV (v_pick_f rfl g37 rfl) ?_
    refine wM ?_
    refine wF rfl ?_
    refine wF rfl ?_
    refine wF rfl ?_
    refine wV (v_pick_f rfl rfl rfl) ?_
    refine wM ?_
    refine wF rfl ?_
    refine wF rfl ?_
    refine wF rfl ?_
    refine wF rfl ?_
    refine wV (v_pick_f rfl rfl rfl) ?_
    refine wA ?_
    refine wl_nil ?_
    refine wc_ret ?_
    first
      | (have q_ := c0p
         first
           | exact ⟨_, res1 rfl rfl, congrArg Value.bool (dec_eq ⟨fun hd => (fit0 c0p).2 ⟨g17p, g22p, by omega, by (have h_ := oT hd; omega)⟩, fun hh => decide_eq_true (by have h_ := (fit0 c0p).1 hh; omega)⟩), H2.pm (Pm.nil _)⟩
           | exact ⟨_, res1 rfl rfl, congrArg Value.bool (dec_f fun hh => by (have h_ := (fit0 c0p).1 hh; first | omega | exact g17p h_.1 | exact g22p h_.2.1)).symm, H2.pm (Pm.nil _)⟩)
      | (have q_ := c1p
         first
           | exact ⟨_, res1 rfl rfl, congrArg Value.bool (dec_eq ⟨fun hd => (fit1 c1p).2 ⟨g37p, by omega, g47p, by (have h_ := oT hd; omega)⟩, fun hh => decide_eq_true (by have h_ := (fit1 c1p).1 hh; omega)⟩), H2.pm (Pm.nil _)⟩
           | exact ⟨_, res1 rfl rfl, congrArg Value.bool (dec_f fun hh => by (have h_ := (fit1 c1p).1 hh; first | omega | exact g37p h_.1 | exact g47p h_.2.2.1)).symm, H2.pm (Pm.nil _)⟩)
      | (have q_ := c2p
         first
           | exact ⟨_, res1 rfl rfl, congrArg Value.bool (dec_eq ⟨fun hd => (fit2 c2p).2 ⟨g57p, by omega, by (have h_ := oT hd; omega)⟩, fun hh => decide_eq_true (by have h_ := (fit2 c2p).1 hh; omega)⟩), H2.pm (Pm.nil _)⟩
           | exact ⟨_, res1 rfl rfl, congrArg Value.bool (dec_f fun hh => by (have h_ := (fit2 c2p).1 hh; first | omega | exact g57p h_.1 | exact g57p h_.1)).symm, H2.pm (Pm.nil _)⟩)
      | exact ⟨_, res1 rfl rfl, congrArg Value.bool (dec_f (fitx c0p c1p c2p c3p)).symm, H2.pm (Pm.nil _)⟩
      | (have q_ := c6p
         exact ⟨_, res1 rfl rfl, congrArg Value.bool (dec_f fun hh => of_ndec (of_n_t c6) ((fitNs_iff _ _).1 ((fit3_f c3p hp).1 hh).2.2.2 i hin)).symm, H2.pm (Pm.nil _)⟩)
      | (have q_ := c5p
         exact ⟨_, res1 rfl rfl, congrArg Value.bool (dec_t ((fit3_f c3p hp).2 ⟨g93p, by omega, by omega, (fitNs_iff _ _).2 fun j hj => ha j (by omega)⟩)).symm, H2.pm (Pm.nil _)⟩)
      | (exact ⟨_, res1 rfl rfl, congrArg Value.bool (dec_f fun hh => by
           obtain ⟨p, hp, h1_, h2_, h3_, _⟩ := (fit3 c3p).1 hh
           first
             | (have h_ := hq4.symm.trans g82p; rw [hp] at h_; cases h_; done)
             | (rw [ofF_get hp] at g93p; exact g93p h1_)
             | omega
             | (have h_ := hq5 p hp; rw [h_] at c4p; omega)).symm, H2.pm (Pm.nil _)⟩)
   have g37p := oT g37
   refine wV (v_fb (o2 := 2) fa24_2 rfl rfl) ?_
   refine wO g37 ?_
   refine wV (v_load one3 rfl (H2.at (by repeat constructor) rfl)) ?_
   refine wO g37 ?_
   refine wV (v_geq rfl rfl) ?_
   refine wV (v_pick_t rfl g37 rfl) ?_
   refine wM ?_
   refine wl_guard rfl rfl rfl (fun g42 => ?_) (fun g42 => ?_)
   rotate_left
   ·have g42p := oF g42
    refine wF g42 ?_
    refine wF g42 ?_
    refine wV (v_pick_f rfl g42 rfl) ?_
    refine wM ?_
    refine wF rfl ?_
    refine wF rfl ?_
    refine wF rfl ?_
    refine wF rfl ?_
    refine wV (v_pick_f rfl rfl rfl) ?_
    refine wA ?_
    refine wl_nil ?_
    refine wc_ret ?_
    first
      | (have q_ := c0p
         first
           | exact ⟨_, res1 rfl rfl, congrArg Value.bool (dec_eq ⟨fun hd => (fit0 c0p).2 ⟨g17p, g22p, by omega, by (have h_ := oT hd; omega)⟩, fun hh => decide_eq_true (by have h_ := (fit0 c0p).1 hh; omega)⟩), H2.pm (Pm.nil _)⟩
           | exact ⟨_, res1 rfl rfl, congrArg Value.bool (dec_f fun hh => by (have h_ := (fit0 c0p).1 hh; first | omega | exact g17p h_.1 | exact g22p h_.2.1)).symm, H2.pm (Pm.nil _)⟩)
      | (have q_ := c1p
         first
           | exact ⟨_, res1 rfl rfl, congrArg Value.bool (dec_eq ⟨fun hd => (fit1 c1p).2 ⟨g37p, by omega, g47p, by (have h_ := oT hd; omega)⟩, fun hh => decide_eq_true (by have h_ := (fit1 c1p).1 hh; omega)⟩), H2.pm (Pm.nil _)⟩
           | exact ⟨_, res1 rfl rfl, congrArg Value.bool (dec_f fun hh => by (have h_ := (fit1 c1p).1 hh; first | omega | exact g37p h_.1 | exact g47p h_.2.2.1)).symm, H2.pm (Pm.nil _)⟩)
      | (have q_ := c2p
         first
           | exact ⟨_, res1 rfl rfl, congrArg Value.bool (dec_eq ⟨fun hd => (fit2 c2p).2 ⟨g57p, by omega, by (have h_ := oT hd; omega)⟩, fun hh => decide_eq_true (by have h_ := (fit2 c2p).1 hh; omega)⟩), H2.pm (Pm.nil _)⟩
           | exact ⟨_, res1 rfl rfl, congrArg Value.bool (dec_f fun hh => by (have h_ := (fit2 c2p).1 hh; first | omega | exact g57p h_.1 | exact g57p h_.1)).symm, H2.pm (Pm.nil _)⟩)
      | exact ⟨_, res1 rfl rfl, congrArg Value.bool (dec_f (fitx c0p c1p c2p c3p)).symm, H2.pm (Pm.nil _)⟩
      | (have q_ := c6p
         exact ⟨_, res1 rfl rfl, congrArg Value.bool (dec_f fun hh => of_ndec (of_n_t c6) ((fitNs_iff _ _).1 ((fit3_f c3p hp).1 hh).2.2.2 i hin)).symm, H2.pm (Pm.nil _)⟩)
      | (have q_ := c5p
         exact ⟨_, res1 rfl rfl, congrArg Value.bool (dec_t ((fit3_f c3p hp).2 ⟨g93p, by omega, by omega, (fitNs_iff _ _).2 fun j hj => ha j (by omega)⟩)).symm, H2.pm (Pm.nil _)⟩)
      | (exact ⟨_, res1 rfl rfl, congrArg Value.bool (dec_f fun hh => by
           obtain ⟨p, hp, h1_, h2_, h3_, _⟩ := (fit3 c3p).1 hh
           first
             | (have h_ := hq4.symm.trans g82p; rw [hp] at h_; cases h_; done)
             | (rw [ofF_get hp] at g93p; exact g93p h1_)
             | omega
             | (have h_ := hq5 p hp; rw [h_] at c4p; omega)).symm, H2.pm (Pm.nil _)⟩)
   have g42p := oT g42
   refine wV (v_fb (o2 := 1) fa24_1 rfl rfl) ?_
   refine wO g42 ?_
   refine wV (v_load one9 rfl (H2.at (by repeat constructor) rfl)) ?_
   refine wO g42 ?_
   refine wV (v_eqls rfl rfl) ?_
   refine wV (v_pick_t rfl g42 rfl) ?_
   refine wM ?_
   refine wl_guard rfl rfl rfl (fun g47 => ?_) (fun g47 => ?_)
   rotate_left
   ·have g47p := oF g47
    refine wF g47 ?_
    refine wF g47 ?_
    refine wF g47 ?_
    refine wV (v_pick_f rfl g47 rfl) ?_
    refine wA ?_
    refine wl_nil ?_
    refine wc_ret ?_
    first
      | (have q_ := c0p
         first
           | exact ⟨_, res1 rfl rfl, congrArg Value.bool (dec_eq ⟨fun hd => (fit0 c0p).2 ⟨g17p, g22p, by omega, by (have h_ := oT hd; omega)⟩, fun hh => decide_eq_true (by have h_ := (fit0 c0p).1 hh; omega)⟩), H2.pm (Pm.nil _)⟩
           | exact ⟨_, res1 rfl rfl, congrArg Value.bool (dec_f fun hh => by (have h_ := (fit0 c0p).1 hh; first | omega | exact g17p h_.1 | exact g22p h_.2.1)).symm, H2.pm (Pm.nil _)⟩)
      | (have q_ := c1p
         first
           | exact ⟨_, res1 rfl rfl, congrArg Value.bool (dec_eq ⟨fun hd => (fit1 c1p).2 ⟨g37p, by omega, g47p, by (have h_ := oT hd; omega)⟩, fun hh => decide_eq_true (by have h_ := (fit1 c1p).1 hh; omega)⟩), H2.pm (Pm.nil _)⟩
           | exact ⟨_, res1 rfl rfl, congrArg Value.bool (dec_f fun hh => by (have h_ := (fit1 c1p).1 hh; first | omega | exact g37p h_.1 | exact g47p h_.2.2.1)).symm, H2.pm (Pm.nil _)⟩)
      | (have q_ := c2p
         first
           | exact ⟨_, res1 rfl rfl, congrArg Value.bool (dec_eq ⟨fun hd => (fit2 c2p).2 ⟨g57p, by omega, by (have h_ := oT hd; omega)⟩, fun hh => decide_eq_true (by have h_ := (fit2 c2p).1 hh; omega)⟩), H2.pm (Pm.nil _)⟩
           | exact ⟨_, res1 rfl rfl, congrArg Value.bool (dec_f fun hh => by (have h_ := (fit2 c2p).1 hh; first | omega | exact g57p h_.1 | exact g57p h_.1)).symm, H2.pm (Pm.nil _)⟩)
      | exact ⟨_, res1 rfl rfl, congrArg Value.bool (dec_f (fitx c0p c1p c2p c3p)).symm, H2.pm (Pm.nil _)⟩
      | (have q_ := c6p
         exact ⟨_, res1 rfl rfl, congrArg Value.bool (dec_f fun hh => of_ndec (of_n_t c6) ((fitNs_iff _ _).1 ((fit3_f c3p hp).1 hh).2.2.2 i hin)).symm, H2.pm (Pm.nil _)⟩)
      | (have q_ := c5p
         exact ⟨_, res1 rfl rfl, congrArg Value.bool (dec_t ((fit3_f c3p hp).2 ⟨g93p, by omega, by omega, (fitNs_iff _ _).2 fun j hj => ha j (by omega)⟩)).symm, H2.pm (Pm.nil _)⟩)
      | (exact ⟨_, res1 rfl rfl, congrArg Value.bool (dec_f fun hh => by
           obtain ⟨p, hp, h1_, h2_, h3_, _⟩ := (fit3 c3p).1 hh
           first
             | (have h_ := hq4.symm.trans g82p; rw [hp] at h_; cases h_; done)
             | (rw [ofF_get hp] at g93p; exact g93p h1_)
             | omega
             | (have h_ := hq5 p hp; rw [h_] at c4p; omega)).symm, H2.pm (Pm.nil _)⟩)
   have g47p := oT g47
   refine wV (v_fb (o2 := 3) fa24_3 rfl rfl) ?_
   refine wO g47 ?_
   refine wV (v_load one22 rfl (H2.at (by repeat constructor) rfl)) ?_
   refine wO g47 ?_
   refine wV (v_len Try.underlying22 rfl) ?_
   refine wO g47 ?_
   refine wV (v_eql rfl rfl) ?_
   refine wV (v_pick_t rfl g47 rfl) ?_
   refine wA ?_
   refine wl_nil ?_
   refine wc_ret ?_
   first
     | (have q_ := c0p
        first
          | exact ⟨_, res1 rfl rfl, congrArg Value.bool (dec_eq ⟨fun hd => (fit0 c0p).2 ⟨g17p, g22p, by omega, by (have h_ := oT hd; omega)⟩, fun hh => decide_eq_true (by have h_ := (fit0 c0p).1 hh; omega)⟩), H2.pm (Pm.nil _)⟩
          | exact ⟨_, res1 rfl rfl, congrArg Value.bool (dec_f fun hh => by (have h_ := (fit0 c0p).1 hh; first | omega | exact g17p h_.1 | exact g22p h_.2.1)).symm, H2.pm (Pm.nil _)⟩)
     | (have q_ := c1p
        first
          | exact ⟨_, res1 rfl rfl, congrArg Value.bool (dec_eq ⟨fun hd => (fit1 c1p).2 ⟨g37p, by omega, g47p, by (have h_ := oT hd; omega)⟩, fun hh => decide_eq_true (by have h_ := (fit1 c1p).1 hh; omega)⟩), H2.pm (Pm.nil _)⟩
          | exact ⟨_, res1 rfl rfl, congrArg Value.bool (dec_f fun hh => by (have h_ := (fit1 c1p).1 hh; first | omega | exact g37p h_.1 | exact g47p h_.2.2.1)).symm, H2.pm (Pm.nil _)⟩)
     | (have q_ := c2p
        first
          | exact ⟨_, res1 rfl rfl, congrArg Value.bool (dec_eq ⟨fun hd => (fit2 c2p).2 ⟨g57p, by omega, by (have h_ := oT hd; omega)⟩, fun hh => decide_eq_true (by have h_ := (fit2 c2p).1 hh; omega)⟩), H2.pm (Pm.nil _)⟩
          | exact ⟨_, res1 rfl rfl, congrArg Value.bool (dec_f fun hh => by (have h_ := (fit2 c2p).1 hh; first | omega | exact g57p h_.1 | exact g57p h_.1)).symm, H2.pm (Pm.nil _)⟩)
     | exact ⟨_, res1 rfl rfl, congrArg Value.bool (dec_f (fitx c0p c1p c2p c3p)).symm, H2.pm (Pm.nil _)⟩
     | (have q_ := c6p
        exact ⟨_, res1 rfl rfl, congrArg Value.bool (dec_f fun hh => of_ndec (of_n_t c6) ((fitNs_iff _ _).1 ((fit3_f c3p hp).1 hh).2.2.2 i hin)).symm, H2.pm (Pm.nil _)⟩)
     | (have q_ := c5p
        exact ⟨_, res1 rfl rfl, congrArg Value.bool (dec_t ((fit3_f c3p hp).2 ⟨g93p, by omega, by omega, (fitNs_iff _ _).2 fun j hj => ha j (by omega)⟩)).symm, H2.pm (Pm.nil _)⟩)
     | (exact ⟨_, res1 rfl rfl, congrArg Value.bool (dec_f fun hh => by
          obtain ⟨p, hp, h1_, h2_, h3_, _⟩ := (fit3 c3p).1 hh
          first
            | (have h_ := hq4.symm.trans g82p; rw [hp] at h_; cases h_; done)
            | (rw [ofF_get hp] at g93p; exact g93p h1_)
            | omega
            | (have h_ := hq5 p hp; rw [h_] at c4p; omega)).symm, H2.pm (Pm.nil _)⟩)
  have c1p := oF c1
  refine wcR ?_
  refine wV (v_eql rfl rfl) ?_
  refine wA ?_
  refine wl_nil ?_
  refine wc_cond rfl (fun c2 => ?_) (fun c2 => ?_)
  ·have c2p := oT c2
   refine wcR ?_
   refine wM ?_
   refine wV (v_eqls rfl rfl) ?_
   refine wM ?_
   refine wl_guard rfl rfl rfl (fun g57 => ?_) (fun g57 => ?_)
   rotate_left
   ·have g57p := oF g57
    refine wF g57 ?_
    refine wF g57 ?_
    refine wV (v_pick_f rfl g57 rfl) ?_
    refine wM ?_
    refine wF rfl ?_
    refine wF rfl ?_
    refine wF rfl ?_
    refine wF rfl ?_
    refine wV (v_pick_f rfl rfl rfl) ?_
    refine wA ?_
    refine wl_nil ?_
    refine wc_ret ?_
    first
      | (have q_ := c0p
         first
           | exact ⟨_, res1 rfl rfl, congrArg Value.bool (dec_eq ⟨fun hd => (fit0 c0p).2 ⟨g17p, g22p, by omega, by (have h_ := oT hd; omega)⟩, fun hh => decide_eq_true (by have h_ := (fit0 c0p).1 hh; omega)⟩), H2.pm (Pm.nil _)⟩
           | exact ⟨_, res1 rfl rfl, congrArg Value.bool (dec_f fun hh => by (have h_ := (fit0 c0p).1 hh; first | omega | exact g17p h_.1 | exact g22p h_.2.1)).symm, H2.pm (Pm.nil _)⟩)
      | (have q_ := c1p
         first
           | exact ⟨_, res1 rfl rfl, congrArg Value.bool (dec_eq ⟨fun hd => (fit1 c1p).2 ⟨g37p, by omega, g47p, by (have h_ := oT hd; omega)⟩, fun hh => decide_eq_true (by have h_ := (fit1 c1p).1 hh; omega)⟩), H2.pm (Pm.nil _)⟩
           | exact ⟨_, res1 rfl rfl, congrArg Value.bool (dec_f fun hh => by (have h_ := (fit1 c1p).1 hh; first | omega | exact g37p h_.1 | exact g47p h_.2.2.1)).symm, H2.pm (Pm.nil _)⟩)
      | (have q_ := c2p
         first
           | exact ⟨_, res1 rfl rfl, congrArg Value.bool (dec_eq ⟨fun hd => (fit2 c2p).2 ⟨g57p, by omega, by (have h_ := oT hd; omega)⟩, fun hh => decide_eq_true (by have h_ := (fit2 c2p).1 hh; omega)⟩), H2.pm (Pm.nil _)⟩
           | exact ⟨_, res1 rfl rfl, congrArg Value.bool (dec_f fun hh => by (have h_ := (fit2 c2p).1 hh; first | omega | exact g57p h_.1 | exact g57p h_.1)).symm, H2.pm (Pm.nil _)⟩)
      | exact ⟨_, res1 rfl rfl, congrArg Value.bool (dec_f (fitx c0p c1p c2p c3p)).symm, H2.pm (Pm.nil _)⟩
      | (have q_ := c6p
         exact ⟨_, res1 rfl rfl, congrArg Value.bool (dec_f fun hh => of_ndec (of_n_t c6) ((fitNs_iff _ _).1 ((fit3_f c3p hp).1 hh).2.2.2 i hin)).symm, H2.pm (Pm.nil _)⟩)
      | (have q_ := c5p
         exact ⟨_, res1 rfl rfl, congrArg Value.bool (dec_t ((fit3_f c3p hp).2 ⟨g93p, by omega, by omega, (fitNs_iff _ _).2 fun j hj => ha j (by omega)⟩)).symm, H2.pm (Pm.nil _)⟩)
      | (exact ⟨_, res1 rfl rfl, congrArg Value.bool (dec_f fun hh => by
           obtain ⟨p, hp, h1_, h2_, h3_, _⟩ := (fit3 c3p).1 hh
           first
             | (have h_ := hq4.symm.trans g82p; rw [hp] at h_; cases h_; done)
             | (rw [ofF_get hp] at g93p; exact g93p h1_)
             | omega
             | (have h_ := hq5 p hp; rw [h_] at c4p; omega)).symm, H2.pm (Pm.nil _)⟩)
   have g57p := oT g57
   refine wV (v_fb (o2 := 2) fa24_2 rfl rfl) ?_
   refine wO g57 ?_
   refine wV (v_load one3 rfl (H2.at (by repeat constructor) rfl)) ?_
   refine wO g57 ?_
   refine wV (v_eql rfl rfl) ?_
   refine wV (v_pick_t rfl g57 rfl) ?_
   refine wM ?_
   refine wl_guard rfl rfl rfl (fun g62 => ?_) (fun g62 => ?_)
   rotate_left
   ·have g62p := oF g62
    refine wF g62 ?_
    refine wF g62 ?_
    refine wF g62 ?_
    refine wV (v_pick_f rfl g62 rfl) ?_
    refine wA ?_
    refine wl_nil ?_
    refine wc_ret ?_
    first
      | (have q_ := c0p
         first
           | exact ⟨_, res1 rfl rfl, congrArg Value.bool (dec_eq ⟨fun hd => (fit0 c0p).2 ⟨g17p, g22p, by omega, by (have h_ := oT hd; omega)⟩, fun hh => decide_eq_true (by have h_ := (fit0 c0p).1 hh; omega)⟩), H2.pm (Pm.nil _)⟩
           | exact ⟨_, res1 rfl rfl, congrArg Value.bool (dec_f fun hh => by (have h_ := (fit0 c0p).1 hh; first | omega | exact g17p h_.1 | exact g22p h_.2.1)).symm, H2.pm (Pm.nil _)⟩)
      | (have q_ := c1p
         first
           | exact ⟨_, res1 rfl rfl, congrArg Value.bool (dec_eq ⟨fun hd => (fit1 c1p).2 ⟨g37p, by omega, g47p, by (have h_ := oT hd; omega)⟩, fun hh => decide_eq_true (by have h_ := (fit1 c1p).1 hh; omega)⟩), H2.pm (Pm.nil _)⟩
           | exact ⟨_, res1 rfl rfl, congrArg Value.bool (dec_f fun hh => by (have h_ := (fit1 c1p).1 hh; first | omega | exact g37p h_.1 | exact g47p h_.2.2.1)).symm, H2.pm (Pm.nil _)⟩)
      | (have q_ := c2p
         first
           | exact ⟨_, res1 rfl rfl, congrArg Value.bool (dec_eq ⟨fun hd => (fit2 c2p).2 ⟨g57p, by omega, by (have h_ := oT hd; omega)⟩, fun hh => decide_eq_true (by have h_ := (fit2 c2p).1 hh; omega)⟩), H2.pm (Pm.nil _)⟩
           | exact ⟨_, res1 rfl rfl, congrArg Value.bool (dec_f fun hh => by (have h_ := (fit2 c2p).1 hh; first | omega | exact g57p h_.1 | exact g57p h_.1)).symm, H2.pm (Pm.nil _)⟩)
      | exact ⟨_, res1 rfl rfl, congrArg Value.bool (dec_f (fitx c0p c1p c2p c3p)).symm, H2.pm (Pm.nil _)⟩
      | (have q_ := c6p
         exact ⟨_, res1 rfl rfl, congrArg Value.bool (dec_f fun hh => of_ndec (of_n_t c6) ((fitNs_iff _ _).1 ((fit3_f c3p hp).1 hh).2.2.2 i hin)).symm, H2.pm (Pm.nil _)⟩)
      | (have q_ := c5p
         exact ⟨_, res1 rfl rfl, congrArg Value.bool (dec_t ((fit3_f c3p hp).2 ⟨g93p, by omega, by omega, (fitNs_iff _ _).2 fun j hj => ha j (by omega)⟩)).symm, H2.pm (Pm.nil _)⟩)
      | (exact ⟨_, res1 rfl rfl, congrArg Value.bool (dec_f fun hh => by
           obtain ⟨p, hp, h1_, h2_, h3_, _⟩ := (fit3 c3p).1 hh
           first
             | (have h_ := hq4.symm.trans g82p; rw [hp] at h_; cases h_; done)
             | (rw [ofF_get hp] at g93p; exact g93p h1_)
             | omega
             | (have h_ := hq5 p hp; rw [h_] at c4p; omega)).symm, H2.pm (Pm.nil _)⟩)
   have g62p := oT g62
   refine wV (v_fb (o2 := 3) fa24_3 rfl rfl) ?_
   refine wO g62 ?_
   refine wV (v_load one22 rfl (H2.at (by repeat constructor) rfl)) ?_
   refine wO g62 ?_
   refine wV (v_len Try.underlying22 rfl) ?_
   refine wO g62 ?_
   refine wV (v_eql rfl rfl) ?_
   refine wV (v_pick_t rfl g62 rfl) ?_
   refine wA ?_
   refine wl_nil ?_
   refine wc_ret ?_
   first
     | (have q_ := c0p
        first
          | exact ⟨_, res1 rfl rfl, congrArg Value.bool (dec_eq ⟨fun hd => (fit0 c0p).2 ⟨g17p, g22p, by omega, by (have h_ := oT hd; omega)⟩, fun hh => decide_eq_true (by have h_ := (fit0 c0p).1 hh; omega)⟩), H2.pm (Pm.nil _)⟩
          | exact ⟨_, res1 rfl rfl, congrArg Value.bool (dec_f fun hh => by (have h_ := (fit0 c0p).1 hh; first | omega | exact g17p h_.1 | exact g22p h_.2.1)).symm, H2.pm (Pm.nil _)⟩)
     | (have q_ := c1p
        first
          | exact ⟨_, res1 rfl rfl, congrArg Value.bool (dec_eq ⟨fun hd => (fit1 c1p).2 ⟨g37p, by omega, g47p, by (have h_ := oT hd; omega)⟩, fun hh => decide_eq_true (by have h_ := (fit1 c1p).1 hh; omega)⟩), H2.pm (Pm.nil _)⟩
          | exact ⟨_, res1 rfl rfl, congrArg Value.bool (dec_f fun hh => by (have h_ := (fit1 c1p).1 hh; first | omega | exact g37p h_.1 | exact g47p h_.2.2.1)).symm, H2.pm (Pm.nil _)⟩)
     | (have q_ := c2p
        first
          | exact ⟨_, res1 rfl rfl, congrArg Value.bool (dec_eq ⟨fun hd => (fit2 c2p).2 ⟨g57p, by omega, by (have h_ := oT hd; omega)⟩, fun hh => decide_eq_true (by have h_ := (fit2 c2p).1 hh; omega)⟩), H2.pm (Pm.nil _)⟩
          | exact ⟨_, res1 rfl rfl, congrArg Value.bool (dec_f fun hh => by (have h_ := (fit2 c2p).1 hh; first | omega | exact g57p h_.1 | exact g57p h_.1)).symm, H2.pm (Pm.nil _)⟩)
     | exact ⟨_, res1 rfl rfl, congrArg Value.bool (dec_f (fitx c0p c1p c2p c3p)).symm, H2.pm (Pm.nil _)⟩
     | (have q_ := c6p
        exact ⟨_, res1 rfl rfl, congrArg Value.bool (dec_f fun hh => of_ndec (of_n_t c6) ((fitNs_iff _ _).1 ((fit3_f c3p hp).1 hh).2.2.2 i hin)).symm, H2.pm (Pm.nil _)⟩)
     | (have q_ := c5p
        exact ⟨_, res1 rfl rfl, congrArg Value.bool (dec_t ((fit3_f c3p hp).2 ⟨g93p, by omega, by omega, (fitNs_iff _ _).2 fun j hj => ha j (by omega)⟩)).symm, H2.pm (Pm.nil _)⟩)
     | (exact ⟨_, res1 rfl rfl, congrArg Value.bool (dec_f fun hh => by
          obtain ⟨p, hp, h1_, h2_, h3_, _⟩ := (fit3 c3p).1 hh
          first
            | (have h_ := hq4.symm.trans g82p; rw [hp] at h_; cases h_; done)
            | (rw [ofF_get hp] at g93p; exact g93p h1_)
            | omega
            | (have h_ := hq5 p hp; rw [h_] at c4p; omega)).symm, H2.pm (Pm.nil _)⟩)
  have c2p := oF c2
  refine wcR ?_
  refine wV (v_eql rfl rfl) ?_
  refine wA ?_
  refine wl_nil ?_
  refine wc_cond rfl (fun c3 => ?_) (fun c3 => ?_)
  rotate_left
  ·have c3p := oF c3
   refine wcR ?_
   refine wA ?_
   refine wl_nil ?_
   refine wc_ret ?_
   first
     | (have q_ := c0p
        first
          | exact ⟨_, res1 rfl rfl, congrArg Value.bool (dec_eq ⟨fun hd => (fit0 c0p).2 ⟨g17p, g22p, by omega, by (have h_ := oT hd; omega)⟩, fun hh => decide_eq_true (by have h_ := (fit0 c0p).1 hh; omega)⟩), H2.pm (Pm.nil _)⟩
          | exact ⟨_, res1 rfl rfl, congrArg Value.bool (dec_f fun hh => by (have h_ := (fit0 c0p).1 hh; first | omega | exact g17p h_.1 | exact g22p h_.2.1)).symm, H2.pm (Pm.nil _)⟩)
     | (have q_ := c1p
        first
          | exact ⟨_, res1 rfl rfl, congrArg Value.bool (dec_eq ⟨fun hd => (fit1 c1p).2 ⟨g37p, by omega, g47p, by (have h_ := oT hd; omega)⟩, fun hh => decide_eq_true (by have h_ := (fit1 c1p).1 hh; omega)⟩), H2.pm (Pm.nil _)⟩
          | exact ⟨_, res1 rfl rfl, congrArg Value.bool (dec_f fun hh => by (have h_ := (fit1 c1p).1 hh; first | omega | exact g37p h_.1 | exact g47p h_.2.2.1)).symm, H2.pm (Pm.nil _)⟩)
     | (have q_ := c2p
        first
          | exact ⟨_, res1 rfl rfl, congrArg Value.bool (dec_eq ⟨fun hd => (fit2 c2p).2 ⟨g57p, by omega, by (have h_ := oT hd; omega)⟩, fun hh => decide_eq_true (by have h_ := (fit2 c2p).1 hh; omega)⟩), H2.pm (Pm.nil _)⟩
          | exact ⟨_, res1 rfl rfl, congrArg Value.bool (dec_f fun hh => by (have h_ := (fit2 c2p).1 hh; first | omega | exact g57p h_.1 | exact g57p h_.1)).symm, H2.pm (Pm.nil _)⟩)
     | exact ⟨_, res1 rfl rfl, congrArg Value.bool (dec_f (fitx c0p c1p c2p c3p)).symm, H2.pm (Pm.nil _)⟩
     | (have q_ := c6p
        exact ⟨_, res1 rfl rfl, congrArg Value.bool (dec_f fun hh => of_ndec (of_n_t c6) ((fitNs_iff _ _).1 ((fit3_f c3p hp).1 hh).2.2.2 i hin)).symm, H2.pm (Pm.nil _)⟩)
     | (have q_ := c5p
        exact ⟨_, res1 rfl rfl, congrArg Value.bool (dec_t ((fit3_f c3p hp).2 ⟨g93p, by omega, by omega, (fitNs_iff _ _).2 fun j hj => ha j (by omega)⟩)).symm, H2.pm (Pm.nil _)⟩)
     | (exact ⟨_, res1 rfl rfl, congrArg Value.bool (dec_f fun hh => by
          obtain ⟨p, hp, h1_, h2_, h3_, _⟩ := (fit3 c3p).1 hh
          first
            | (have h_ := hq4.symm.trans g82p; rw [hp] at h_; cases h_; done)
            | (rw [ofF_get hp] at g93p; exact g93p h1_)
            | omega
            | (have h_ := hq5 p hp; rw [h_] at c4p; omega)).symm, H2.pm (Pm.nil _)⟩)
  have c3p := oT c3
  refine wc_skip ?_
  refine wc_seq ?_
  refine wc_tree [0, 1, 2, 3, 4, 5, 6, 7, 8, 9] (fun W => Holds w [Blk b4 24 [.int .i64 t.x.kind, .string t.x.name, .int .i64 t.x.tok, .slice B t.kids.length k]] W) mixed ?_
  have Hd := H2.drew
  have HSd : Holds w [Blk b4 24 [.int .i64 t.x.kind, .string t.x.name, .int .i64 t.x.tok, .slice B t.kids.length k]] _ := Hd.pm (by repeat constructor)
  refine wjV (k := 0) rfl HSd (fun W HW => v_move rfl) ?_
  refine wjV (k := 1) rfl HSd (fun W HW => v_nil rfl) ?_
  refine wjV (k := 2) rfl HSd (fun W HW => v_fb (o2 := 1) fa126_1 rfl rfl) ?_
  refine wjV (k := 3) rfl HSd (fun W HW => v_load one123 rfl (HW.cell (hdc 1 _ rfl))) ?_
  refine wjV (k := 4) rfl HSd (fun W HW => v_fb (o2 := 1) fa24_1 rfl rfl) ?_
  refine wjV (k := 5) rfl HSd (fun W HW => v_load one9 rfl (HW.at (by repeat constructor) rfl)) ?_
  obtain ⟨q9, A9, k9, hq1, hq2, hq3, hq4, hq5⟩ := hC.look t.x.name
  refine wjV (k := 6) rfl HSd (fun W HW => v_lookRok (hM1 _ HW.old) Try.underlying123 zv80 (show KS.ok t.x.name from Nat.le_trans hsz (by decide)) rfl rfl hq1) ?_
  refine wjV (k := 7) rfl HSd (fun W HW => v_move rfl) ?_
  refine wjV (k := 8) rfl HSd (fun W HW => v_extract rfl rfl) ?_
  refine wjV (k := 9) rfl HSd (fun W HW => v_extract rfl rfl) ?_
  refine wj_t (k := 10) rfl (by kernel_rfl) ?_
  refine wl_alloc (cs := [.string ⟨#[]⟩, .slice none 0 0]) Hd rfl zv80 rfl ?_
  intro b7 w3 hb7 H4
  have HS5 : Holds w [Blk b4 24 [.int .i64 t.x.kind, .string t.x.name, .int .i64 t.x.tok, .slice B t.kids.length k]] _ := H4.pm (by repeat constructor)
  refine wl_nil (tn ⟨fun _ => HS5, ?_⟩)
  refine wj_t (k := 11) rfl (by kernel_rfl) ?_
  refine wl_store (vs := [_, _]) H4 (by repeat constructor) sz80 rfl rfl rfl rfl rfl (by (repeat constructor)) ?_
  intro w6 H7 hw6
  have HS8 : Holds w [Blk b4 24 [.int .i64 t.x.kind, .string t.x.name, .int .i64 t.x.tok, .slice B t.kids.length k]] _ := H7.pm (by repeat constructor)
  refine wl_nil (tn ⟨fun _ => HS8, ?_⟩)
  refine wj_t (k := 12) rfl (by kernel_rfl) ?_
  refine wA ?_
  refine wl_nil (tn ⟨fun hlt => absurd hlt (by rw [show allH _ _ _ = true by kernel_rfl]; simp), ?_⟩)
  refine wj_done (by kernel_rfl) ?_
  refine wc_seq ?_
  refine wc_seq ?_
  refine wc_still mixed (by kernel_rfl) ?_
  have Hd := H7.drew
  refine ws_v rfl rfl rfl (v_move rfl) ?_
  refine ws_v rfl rfl rfl (v_not rfl) ?_
  refine ws_v rfl rfl rfl (v_move rfl) ?_
  refine ws_guard rfl rfl rfl (fun g82 => ?_) (fun g82 => ?_)
  rotate_left
  ·have g82p := of_n_t g82
   refine ws_off rfl rfl g82 rfl ?_
   refine ws_off rfl rfl g82 rfl ?_
   refine ws_off rfl rfl g82 rfl ?_
   refine ws_off rfl rfl g82 rfl ?_
   refine ws_off rfl rfl g82 rfl ?_
   refine ws_off rfl rfl g82 rfl ?_
   refine ws_off rfl rfl g82 rfl ?_
   refine ws_off rfl rfl g82 rfl ?_
   refine ws_v rfl rfl rfl (v_pick_t rfl g82 rfl) ?_
   refine ws_v rfl rfl rfl (v_move rfl) ?_
   refine ws_off rfl rfl rfl rfl ?_
   refine ws_off rfl rfl rfl rfl ?_
   refine ws_off rfl rfl rfl rfl ?_
   refine ws_v rfl rfl rfl (v_pick_t rfl rfl rfl) ?_
   refine ws_v rfl rfl rfl (v_move rfl) ?_
   refine ws_off rfl rfl rfl rfl ?_
   refine ws_off rfl rfl rfl rfl ?_
   refine ws_off rfl rfl rfl rfl ?_
   refine ws_off rfl rfl rfl rfl ?_
   refine ws_off rfl rfl rfl rfl ?_
   refine ws_off rfl rfl rfl rfl ?_
   refine ws_off rfl rfl rfl rfl ?_
   refine ws_v rfl rfl rfl (v_pick_t rfl rfl rfl) ?_
   refine ws_nil ?_
   refine wc_cond_t rfl ?_
   refine wcR ?_
   refine wA ?_
   refine wl_nil ?_
   refine wc_ret ?_
   first
     | (have q_ := c0p
        first
          | exact ⟨_, res1 rfl rfl, congrArg Value.bool (dec_eq ⟨fun hd => (fit0 c0p).2 ⟨g17p, g22p, by omega, by (have h_ := oT hd; omega)⟩, fun hh => decide_eq_true (by have h_ := (fit0 c0p).1 hh; omega)⟩), Hd.pm (Pm.nil _)⟩
          | exact ⟨_, res1 rfl rfl, congrArg Value.bool (dec_f fun hh => by (have h_ := (fit0 c0p).1 hh; first | omega | exact g17p h_.1 | exact g22p h_.2.1)).symm, Hd.pm (Pm.nil _)⟩)
     | (have q_ := c1p
        first
          | exact ⟨_, res1 rfl rfl, congrArg Value.bool (dec_eq ⟨fun hd => (fit1 c1p).2 ⟨g37p, by omega, g47p, by (have h_ := oT hd; omega)⟩, fun hh => decide_eq_true (by have h_ := (fit1 c1p).1 hh; omega)⟩), Hd.pm (Pm.nil _)⟩
          | exact ⟨_, res1 rfl rfl, congrArg Value.bool (dec_f fun hh => by (have h_ := (fit1 c1p).1 hh; first | omega | exact g37p h_.1 | exact g47p h_.2.2.1)).symm, Hd.pm (Pm.nil _)⟩)
     | (have q_ := c2p
        first
          | exact ⟨_, res1 rfl rfl, congrArg Value.bool (dec_eq ⟨fun hd => (fit2 c2p).2 ⟨g57p, by omega, by (have h_ := oT hd; omega)⟩, fun hh => decide_eq_true (by have h_ := (fit2 c2p).1 hh; omega)⟩), Hd.pm (Pm.nil _)⟩
          | exact ⟨_, res1 rfl rfl, congrArg Value.bool (dec_f fun hh => by (have h_ := (fit2 c2p).1 hh; first | omega | exact g57p h_.1 | exact g57p h_.1)).symm, Hd.pm (Pm.nil _)⟩)
     | exact ⟨_, res1 rfl rfl, congrArg Value.bool (dec_f (fitx c0p c1p c2p c3p)).symm, Hd.pm (Pm.nil _)⟩
     | (have q_ := c6p
        exact ⟨_, res1 rfl rfl, congrArg Value.bool (dec_f fun hh => of_ndec (of_n_t c6) ((fitNs_iff _ _).1 ((fit3_f c3p hp).1 hh).2.2.2 i hin)).symm, Hd.pm (Pm.nil _)⟩)
     | (have q_ := c5p
        exact ⟨_, res1 rfl rfl, congrArg Value.bool (dec_t ((fit3_f c3p hp).2 ⟨g93p, by omega, by omega, (fitNs_iff _ _).2 fun j hj => ha j (by omega)⟩)).symm, Hd.pm (Pm.nil _)⟩)
     | (exact ⟨_, res1 rfl rfl, congrArg Value.bool (dec_f fun hh => by
          obtain ⟨p, hp, h1_, h2_, h3_, _⟩ := (fit3 c3p).1 hh
          first
            | (have h_ := hq4.symm.trans g82p; rw [hp] at h_; cases h_; done)
            | (rw [ofF_get hp] at g93p; exact g93p h1_)
            | omega
            | (have h_ := hq5 p hp; rw [h_] at c4p; omega)).symm, Hd.pm (Pm.nil _)⟩)
  have g82p := of_n_f g82
  refine ws_v rfl rfl rfl (v_move rfl) ?_
  refine ws_on' rfl rfl g82 ?_
  refine ws_v rfl rfl rfl (v_nil rfl) ?_
  refine ws_on' rfl rfl g82 ?_
  refine ws_v rfl rfl rfl (v_fb (o2 := 2) fa126_2 rfl rfl) ?_
  refine ws_on' rfl rfl g82 ?_
  refine ws_v rfl rfl rfl (v_load one124 rfl (Hd.cell (hdc 2 _ rfl))) ?_
  refine ws_on' rfl rfl g82 ?_
  refine ws_v rfl rfl rfl (v_fb (o2 := 1) fa24_1 rfl rfl) ?_
  refine ws_on' rfl rfl g82 ?_
  refine ws_v rfl rfl rfl (v_load one9 rfl (Hd.at (by repeat constructor) rfl)) ?_
  refine ws_on' rfl rfl g82 ?_
  refine ws_v rfl rfl rfl (v_lookR (hM2 _ Hd.old) Try.underlying124 zv9 (show KS.ok t.x.name from Nat.le_trans hsz (by decide)) rfl rfl (ofF_look _ _)) ?_
  refine ws_on' rfl rfl g82 ?_
  refine ws_v rfl rfl rfl (v_move rfl) ?_
  refine ws_on' rfl rfl g82 ?_
  refine ws_v rfl rfl rfl (v_neqs rfl rfl) ?_
  refine ws_v rfl rfl rfl (v_pick_f rfl g82 rfl) ?_
  refine ws_v rfl rfl rfl (v_move rfl) ?_
  refine ws_guard rfl rfl rfl (fun g93 => ?_) (fun g93 => ?_)
  rotate_left
  ·have g93p := of_nd_t g93
   refine ws_off rfl rfl g93 rfl ?_
   refine ws_off rfl rfl g93 rfl ?_
   refine ws_v rfl rfl rfl (v_pick_t rfl g93 rfl) ?_
   refine ws_v rfl rfl rfl (v_move rfl) ?_
   refine ws_off rfl rfl rfl rfl ?_
   refine ws_off rfl rfl rfl rfl ?_
   refine ws_off rfl rfl rfl rfl ?_
   refine ws_off rfl rfl rfl rfl ?_
   refine ws_off rfl rfl rfl rfl ?_
   refine ws_off rfl rfl rfl rfl ?_
   refine ws_off rfl rfl rfl rfl ?_
   refine ws_v rfl rfl rfl (v_pick_t rfl rfl rfl) ?_
   refine ws_nil ?_
   refine wc_cond_t rfl ?_
   refine wcR ?_
   refine wA ?_
   refine wl_nil ?_
   refine wc_ret ?_
   first
     | (have q_ := c0p
        first
          | exact ⟨_, res1 rfl rfl, congrArg Value.bool (dec_eq ⟨fun hd => (fit0 c0p).2 ⟨g17p, g22p, by omega, by (have h_ := oT hd; omega)⟩, fun hh => decide_eq_true (by have h_ := (fit0 c0p).1 hh; omega)⟩), Hd.pm (Pm.nil _)⟩
          | exact ⟨_, res1 rfl rfl, congrArg Value.bool (dec_f fun hh => by (have h_ := (fit0 c0p).1 hh; first | omega | exact g17p h_.1 | exact g22p h_.2.1)).symm, Hd.pm (Pm.nil _)⟩)
     | (have q_ := c1p
        first
          | exact ⟨_, res1 rfl rfl, congrArg Value.bool (dec_eq ⟨fun hd => (fit1 c1p).2 ⟨g37p, by omega, g47p, by (have h_ := oT hd; omega)⟩, fun hh => decide_eq_true (by have h_ := (fit1 c1p).1 hh; omega)⟩), Hd.pm (Pm.nil _)⟩
          | exact ⟨_, res1 rfl rfl, congrArg Value.bool (dec_f fun hh => by (have h_ := (fit1 c1p).1 hh; first | omega | exact g37p h_.1 | exact g47p h_.2.2.1)).symm, Hd.pm (Pm.nil _)⟩)
     | (have q_ := c2p
        first
          | exact ⟨_, res1 rfl rfl, congrArg Value.bool (dec_eq ⟨fun hd => (fit2 c2p).2 ⟨g57p, by omega, by (have h_ := oT hd; omega)⟩, fun hh => decide_eq_true (by have h_ := (fit2 c2p).1 hh; omega)⟩), Hd.pm (Pm.nil _)⟩
          | exact ⟨_, res1 rfl rfl, congrArg Value.bool (dec_f fun hh => by (have h_ := (fit2 c2p).1 hh; first | omega | exact g57p h_.1 | exact g57p h_.1)).symm, Hd.pm (Pm.nil _)⟩)
     | exact ⟨_, res1 rfl rfl, congrArg Value.bool (dec_f (fitx c0p c1p c2p c3p)).symm, Hd.pm (Pm.nil _)⟩
     | (have q_ := c6p
        exact ⟨_, res1 rfl rfl, congrArg Value.bool (dec_f fun hh => of_ndec (of_n_t c6) ((fitNs_iff _ _).1 ((fit3_f c3p hp).1 hh).2.2.2 i hin)).symm, Hd.pm (Pm.nil _)⟩)
     | (have q_ := c5p
        exact ⟨_, res1 rfl rfl, congrArg Value.bool (dec_t ((fit3_f c3p hp).2 ⟨g93p, by omega, by omega, (fitNs_iff _ _).2 fun j hj => ha j (by omega)⟩)).symm, Hd.pm (Pm.nil _)⟩)
     | (exact ⟨_, res1 rfl rfl, congrArg Value.bool (dec_f fun hh => by
          obtain ⟨p, hp, h1_, h2_, h3_, _⟩ := (fit3 c3p).1 hh
          first
            | (have h_ := hq4.symm.trans g82p; rw [hp] at h_; cases h_; done)
            | (rw [ofF_get hp] at g93p; exact g93p h1_)
            | omega
            | (have h_ := hq5 p hp; rw [h_] at c4p; omega)).symm, Hd.pm (Pm.nil _)⟩)
  have g93p := of_nd_f g93
  refine ws_v rfl rfl rfl (v_fb (o2 := 2) fa24_2 rfl rfl) ?_
  refine ws_on' rfl rfl g93 ?_
  refine ws_v rfl rfl rfl (v_load one3 rfl (Hd.at (by repeat constructor) rfl)) ?_
  refine ws_on' rfl rfl g93 ?_
  refine ws_v rfl rfl rfl (v_neq rfl rfl) ?_
  refine ws_v rfl rfl rfl (v_pick_f rfl g93 rfl) ?_
  refine ws_v rfl rfl rfl (v_move rfl) ?_
  refine ws_guard rfl rfl rfl (fun g98 => ?_) (fun g98 => ?_)
  rotate_left
  ·have g98p := of_nd_t g98
   refine ws_off rfl rfl g98 rfl ?_
   refine ws_off rfl rfl g98 rfl ?_
   refine ws_off rfl rfl g98 rfl ?_
   refine ws_off rfl rfl g98 rfl ?_
   refine ws_off rfl rfl g98 rfl ?_
   refine ws_off rfl rfl g98 rfl ?_
   refine ws_v rfl rfl rfl (v_pick_t rfl g98 rfl) ?_
   refine ws_nil ?_
   refine wc_cond_t rfl ?_
   refine wcR ?_
   refine wA ?_
   refine wl_nil ?_
   refine wc_ret ?_
   first
     | (have q_ := c0p
        first
          | exact ⟨_, res1 rfl rfl, congrArg Value.bool (dec_eq ⟨fun hd => (fit0 c0p).2 ⟨g17p, g22p, by omega, by (have h_ := oT hd; omega)⟩, fun hh => decide_eq_true (by have h_ := (fit0 c0p).1 hh; omega)⟩), Hd.pm (Pm.nil _)⟩
          | exact ⟨_, res1 rfl rfl, congrArg Value.bool (dec_f fun hh => by (have h_ := (fit0 c0p).1 hh; first | omega | exact g17p h_.1 | exact g22p h_.2.1)).symm, Hd.pm (Pm.nil _)⟩)
     | (have q_ := c1p
        first
          | exact ⟨_, res1 rfl rfl, congrArg Value.bool (dec_eq ⟨fun hd => (fit1 c1p).2 ⟨g37p, by omega, g47p, by (have h_ := oT hd; omega)⟩, fun hh => decide_eq_true (by have h_ := (fit1 c1p).1 hh; omega)⟩), Hd.pm (Pm.nil _)⟩
          | exact ⟨_, res1 rfl rfl, congrArg Value.bool (dec_f fun hh => by (have h_ := (fit1 c1p).1 hh; first | omega | exact g37p h_.1 | exact g47p h_.2.2.1)).symm, Hd.pm (Pm.nil _)⟩)
     | (have q_ := c2p
        first
          | exact ⟨_, res1 rfl rfl, congrArg Value.bool (dec_eq ⟨fun hd => (fit2 c2p).2 ⟨g57p, by omega, by (have h_ := oT hd; omega)⟩, fun hh => decide_eq_true (by have h_ := (fit2 c2p).1 hh; omega)⟩), Hd.pm (Pm.nil _)⟩
          | exact ⟨_, res1 rfl rfl, congrArg Value.bool (dec_f fun hh => by (have h_ := (fit2 c2p).1 hh; first | omega | exact g57p h_.1 | exact g57p h_.1)).symm, Hd.pm (Pm.nil _)⟩)
     | exact ⟨_, res1 rfl rfl, congrArg Value.bool (dec_f (fitx c0p c1p c2p c3p)).symm, Hd.pm (Pm.nil _)⟩
     | (have q_ := c6p
        exact ⟨_, res1 rfl rfl, congrArg Value.bool (dec_f fun hh => of_ndec (of_n_t c6) ((fitNs_iff _ _).1 ((fit3_f c3p hp).1 hh).2.2.2 i hin)).symm, Hd.pm (Pm.nil _)⟩)
     | (have q_ := c5p
        exact ⟨_, res1 rfl rfl, congrArg Value.bool (dec_t ((fit3_f c3p hp).2 ⟨g93p, by omega, by omega, (fitNs_iff _ _).2 fun j hj => ha j (by omega)⟩)).symm, Hd.pm (Pm.nil _)⟩)
     | (exact ⟨_, res1 rfl rfl, congrArg Value.bool (dec_f fun hh => by
          obtain ⟨p, hp, h1_, h2_, h3_, _⟩ := (fit3 c3p).1 hh
          first
            | (have h_ := hq4.symm.trans g82p; rw [hp] at h_; cases h_; done)
            | (rw [ofF_get hp] at g93p; exact g93p h1_)
            | omega
            | (have h_ := hq5 p hp; rw [h_] at c4p; omega)).symm, Hd.pm (Pm.nil _)⟩)
  have g98p := of_nd_f g98
  refine ws_v rfl rfl rfl (v_fb (o2 := 1) fa80_1 rfl rfl) ?_
  refine ws_on' rfl rfl g98 ?_
  refine ws_v rfl rfl rfl (v_load one40 rfl (Hd.at (by repeat constructor) rfl)) ?_
  refine ws_on' rfl rfl g98 ?_
  refine ws_v rfl rfl rfl (v_len Try.underlying40 rfl) ?_
  refine ws_on' rfl rfl g98 ?_
  refine ws_v rfl rfl rfl (v_fb (o2 := 3) fa24_3 rfl rfl) ?_
  refine ws_on' rfl rfl g98 ?_
  refine ws_v rfl rfl rfl (v_load one22 rfl (Hd.at (by repeat constructor) rfl)) ?_
  refine ws_on' rfl rfl g98 ?_
  refine ws_v rfl rfl rfl (v_len Try.underlying22 rfl) ?_
  refine ws_on' rfl rfl g98 ?_
  refine ws_v rfl rfl rfl (v_neq rfl rfl) ?_
  refine ws_v rfl rfl rfl (v_pick_f rfl g98 rfl) ?_
  refine ws_nil ?_
  refine wc_cond rfl (fun c4 => ?_) (fun c4 => ?_)
  ·have c4p := of_nd_t c4
   refine wcR ?_
   refine wA ?_
   refine wl_nil ?_
   refine wc_ret ?_
   first
     | (have q_ := c0p
        first
          | exact ⟨_, res1 rfl rfl, congrArg Value.bool (dec_eq ⟨fun hd => (fit0 c0p).2 ⟨g17p, g22p, by omega, by (have h_ := oT hd; omega)⟩, fun hh => decide_eq_true (by have h_ := (fit0 c0p).1 hh; omega)⟩), Hd.pm (Pm.nil _)⟩
          | exact ⟨_, res1 rfl rfl, congrArg Value.bool (dec_f fun hh => by (have h_ := (fit0 c0p).1 hh; first | omega | exact g17p h_.1 | exact g22p h_.2.1)).symm, Hd.pm (Pm.nil _)⟩)
     | (have q_ := c1p
        first
          | exact ⟨_, res1 rfl rfl, congrArg Value.bool (dec_eq ⟨fun hd => (fit1 c1p).2 ⟨g37p, by omega, g47p, by (have h_ := oT hd; omega)⟩, fun hh => decide_eq_true (by have h_ := (fit1 c1p).1 hh; omega)⟩), Hd.pm (Pm.nil _)⟩
          | exact ⟨_, res1 rfl rfl, congrArg Value.bool (dec_f fun hh => by (have h_ := (fit1 c1p).1 hh; first | omega | exact g37p h_.1 | exact g47p h_.2.2.1)).symm, Hd.pm (Pm.nil _)⟩)
     | (have q_ := c2p
        first
          | exact ⟨_, res1 rfl rfl, congrArg Value.bool (dec_eq ⟨fun hd => (fit2 c2p).2 ⟨g57p, by omega, by (have h_ := oT hd; omega)⟩, fun hh => decide_eq_true (by have h_ := (fit2 c2p).1 hh; omega)⟩), Hd.pm (Pm.nil _)⟩
          | exact ⟨_, res1 rfl rfl, congrArg Value.bool (dec_f fun hh => by (have h_ := (fit2 c2p).1 hh; first | omega | exact g57p h_.1 | exact g57p h_.1)).symm, Hd.pm (Pm.nil _)⟩)
     | exact ⟨_, res1 rfl rfl, congrArg Value.bool (dec_f (fitx c0p c1p c2p c3p)).symm, Hd.pm (Pm.nil _)⟩
     | (have q_ := c6p
        exact ⟨_, res1 rfl rfl, congrArg Value.bool (dec_f fun hh => of_ndec (of_n_t c6) ((fitNs_iff _ _).1 ((fit3_f c3p hp).1 hh).2.2.2 i hin)).symm, Hd.pm (Pm.nil _)⟩)
     | (have q_ := c5p
        exact ⟨_, res1 rfl rfl, congrArg Value.bool (dec_t ((fit3_f c3p hp).2 ⟨g93p, by omega, by omega, (fitNs_iff _ _).2 fun j hj => ha j (by omega)⟩)).symm, Hd.pm (Pm.nil _)⟩)
     | (exact ⟨_, res1 rfl rfl, congrArg Value.bool (dec_f fun hh => by
          obtain ⟨p, hp, h1_, h2_, h3_, _⟩ := (fit3 c3p).1 hh
          first
            | (have h_ := hq4.symm.trans g82p; rw [hp] at h_; cases h_; done)
            | (rw [ofF_get hp] at g93p; exact g93p h1_)
            | omega
            | (have h_ := hq5 p hp; rw [h_] at c4p; omega)).symm, Hd.pm (Pm.nil _)⟩)
  have c4p := of_nd_f c4
  have hfs : (fnd P t.x.name).isSome = true := hq4.symm.trans g82p
  obtain ⟨p, hp⟩ := Option.isSome_iff_exists.1 hfs
  obtain rfl := hq5 p hp
  rw [ofF_get hp] at g93p
  refine wc_skip ?_
  refine wc_seq ?_
  refine wcR ?_
  refine wV (v_fb (o2 := 3) fa24_3 rfl rfl) ?_
  refine wV (v_load one22 rfl (Hd.at (by repeat constructor) rfl)) ?_
  refine wV (v_len Try.underlying22 rfl) ?_
  refine wM ?_
  refine wl_nil ?_
  refine wc_block ?_
  refine wc_loop (σ := Nat) (fun s => [(0, .pointer (some ⟨bd, 0, none⟩)), (4, .pointer (some ⟨b4, 0, none⟩)), (7, .pointer (some ⟨b7, 0, none⟩)), (108, .slice B t.kids.length k), (109, .int .i64 t.kids.length), (110, .int .i64 s)]) (fun s W => (s ≤ t.kids.length ∧ ∀ j, j < s → fitN P (t.kids.getD j nd0) (p.2.fields.getD j s0)) ∧ Holds w [Blk b7 80 [.string p.2.name, .slice A9 p.2.fields.length k9], Blk b4 24 [.int .i64 t.x.kind, .string t.x.name, .int .i64 t.x.tok, .slice B t.kids.length k]] W) (fun s => t.kids.length - s) 0 (sc rfl (sc rfl (sc rfl (sc rfl (sc rfl (sc rfl (sn _))))))) ⟨⟨Nat.zero_le _, upto_zero⟩, Hd.pm (by repeat constructor)⟩ ?_
  rintro i W0 ⟨⟨hi, ha⟩, H⟩
  refine wcR ?_
  refine wV (v_lss rfl rfl) ?_
  refine wl_nil ?_
  refine wc_seq ?_
  refine wc_cond rfl (fun c5 => ?_) (fun c5 => ?_)
  rotate_left
  ·have c5p := oF c5
   refine wc_exit ?_
   refine wcR ?_
   refine wA ?_
   refine wl_nil ?_
   refine wc_ret ?_
   first
     | (have q_ := c0p
        first
          | exact ⟨_, res1 rfl rfl, congrArg Value.bool (dec_eq ⟨fun hd => (fit0 c0p).2 ⟨g17p, g22p, by omega, by (have h_ := oT hd; omega)⟩, fun hh => decide_eq_true (by have h_ := (fit0 c0p).1 hh; omega)⟩), H.pm (Pm.nil _)⟩
          | exact ⟨_, res1 rfl rfl, congrArg Value.bool (dec_f fun hh => by (have h_ := (fit0 c0p).1 hh; first | omega | exact g17p h_.1 | exact g22p h_.2.1)).symm, H.pm (Pm.nil _)⟩)
     | (have q_ := c1p
        first
          | exact ⟨_, res1 rfl rfl, congrArg Value.bool (dec_eq ⟨fun hd => (fit1 c1p).2 ⟨g37p, by omega, g47p, by (have h_ := oT hd; omega)⟩, fun hh => decide_eq_true (by have h_ := (fit1 c1p).1 hh; omega)⟩), H.pm (Pm.nil _)⟩
          | exact ⟨_, res1 rfl rfl, congrArg Value.bool (dec_f fun hh => by (have h_ := (fit1 c1p).1 hh; first | omega | exact g37p h_.1 | exact g47p h_.2.2.1)).symm, H.pm (Pm.nil _)⟩)
     | (have q_ := c2p
        first
          | exact ⟨_, res1 rfl rfl, congrArg Value.bool (dec_eq ⟨fun hd => (fit2 c2p).2 ⟨g57p, by omega, by (have h_ := oT hd; omega)⟩, fun hh => decide_eq_true (by have h_ := (fit2 c2p).1 hh; omega)⟩), H.pm (Pm.nil _)⟩
          | exact ⟨_, res1 rfl rfl, congrArg Value.bool (dec_f fun hh => by (have h_ := (fit2 c2p).1 hh; first | omega | exact g57p h_.1 | exact g57p h_.1)).symm, H.pm (Pm.nil _)⟩)
     | exact ⟨_, res1 rfl rfl, congrArg Value.bool (dec_f (fitx c0p c1p c2p c3p)).symm, H.pm (Pm.nil _)⟩
     | (have q_ := c6p
        exact ⟨_, res1 rfl rfl, congrArg Value.bool (dec_f fun hh => of_ndec (of_n_t c6) ((fitNs_iff _ _).1 ((fit3_f c3p hp).1 hh).2.2.2 i hin)).symm, H.pm (Pm.nil _)⟩)
     | (have q_ := c5p
        exact ⟨_, res1 rfl rfl, congrArg Value.bool (dec_t ((fit3_f c3p hp).2 ⟨g93p, by omega, by omega, (fitNs_iff _ _).2 fun j hj => ha j (by omega)⟩)).symm, H.pm (Pm.nil _)⟩)
     | (exact ⟨_, res1 rfl rfl, congrArg Value.bool (dec_f fun hh => by
          obtain ⟨p, hp, h1_, h2_, h3_, _⟩ := (fit3 c3p).1 hh
          first
            | (have h_ := hq4.symm.trans g82p; rw [hp] at h_; cases h_; done)
            | (rw [ofF_get hp] at g93p; exact g93p h1_)
            | omega
            | (have h_ := hq5 p hp; rw [h_] at c4p; omega)).symm, H.pm (Pm.nil _)⟩)
  have c5p := oT c5
  have hin : i < t.kids.length := by omega
  refine wc_skip ?_
  refine wc_seq ?_
  refine wc_block ?_
  refine wcR ?_
  refine wM ?_
  refine wV (v_idx Try.underlying22 sz24 hr.ad rfl rfl (by omega) (by omega)) ?_
  obtain ⟨B114_, k114_, hc114_, hl114_, hr114_⟩ := hr.atTr nd0 (i := i) (by omega)
  refine wV (v_loadN (cs := [.int .i64 (t.kids.getD i nd0).x.kind, .string (t.kids.getD i nd0).x.name, .int .i64 (t.kids.getD i nd0).x.tok, .slice B114_ (t.kids.getD i nd0).kids.length k114_]) agg24 rfl rfl (fun q_ u_ hu_ => H.cell (hc114_ q_ u_ hu_))) ?_
  refine wl_alloc (cs := [.int .i64 0, .string ⟨#[]⟩, .int .i64 0, .slice none 0 0]) H rfl zv24 rfl ?_
  intro b10 w11 hb10 H12
  refine wA ?_
  refine wl_store (vs := [_, _, _, _]) H12 (by repeat constructor) sz24 rfl rfl rfl rfl rfl (by (repeat constructor)) ?_
  intro w13 H14 hw13
  refine wl_nil ?_
  refine wc_seq ?_
  refine wc_tree [0, 1, 2, 3, 4, 5, 6, 8] (fun W => Holds w [Blk b10 24 [.int .i64 (t.kids.getD i nd0).x.kind, .string (t.kids.getD i nd0).x.name, .int .i64 (t.kids.getD i nd0).x.tok, .slice B114_ (t.kids.getD i nd0).kids.length k114_], Blk b7 80 [.string p.2.name, .slice A9 p.2.fields.length k9], Blk b4 24 [.int .i64 t.x.kind, .string t.x.name, .int .i64 t.x.tok, .slice B t.kids.length k]] W) mixed ?_
  have Hd := H14.drew
  have HSd : Holds w [Blk b10 24 [.int .i64 (t.kids.getD i nd0).x.kind, .string (t.kids.getD i nd0).x.name, .int .i64 (t.kids.getD i nd0).x.tok, .slice B114_ (t.kids.getD i nd0).kids.length k114_], Blk b7 80 [.string p.2.name, .slice A9 p.2.fields.length k9], Blk b4 24 [.int .i64 t.x.kind, .string t.x.name, .int .i64 t.x.tok, .slice B t.kids.length k]] _ := Hd.pm (by repeat constructor)
  refine wjV (k := 0) rfl HSd (fun W HW => v_move rfl) ?_
  refine wjV (k := 1) rfl HSd (fun W HW => v_loadN agg24 rfl rfl (HW.ats (by repeat constructor))) ?_
  refine wjV (k := 2) rfl HSd (fun W HW => v_fb (o2 := 1) fa80_1 rfl rfl) ?_
  refine wjV (k := 3) rfl HSd (fun W HW => v_load one40 rfl (HW.at (by repeat constructor) rfl)) ?_
  refine wjV (k := 4) rfl HSd (fun W HW => v_move rfl) ?_
  refine wjV (k := 5) rfl HSd (fun W HW => v_idx Try.underlying40 sz9 hq3.ad rfl rfl (by omega) (by omega)) ?_
  refine wjV (k := 6) rfl HSd (fun W HW => v_load one9 rfl (HW.cell (hq3.at1sN (i := i) (by omega)))) ?_
  refine wj_t (k := 7) rfl (by kernel_rfl) ?_
  refine wl_call en53 rfl rfl (ih _ (getD_mem (z := nd0) hin) _ _ _ bd b0 b1 b2 ns (p.2.fields.getD i s0) fC (hds.below Hd.old) (hr114_.below Hd.old) (Tr.Alls_at nd0 hin hks)) ?_
  rintro _ w15 ⟨rfl, Hc⟩
  have H16 := Hd.call0 Hc
  have HS17 : Holds w [Blk b10 24 [.int .i64 (t.kids.getD i nd0).x.kind, .string (t.kids.getD i nd0).x.name, .int .i64 (t.kids.getD i nd0).x.tok, .slice B114_ (t.kids.getD i nd0).kids.length k114_], Blk b7 80 [.string p.2.name, .slice A9 p.2.fields.length k9], Blk b4 24 [.int .i64 t.x.kind, .string t.x.name, .int .i64 t.x.tok, .slice B t.kids.length k]] _ := H16.pm (by repeat constructor)
  refine wl_nil (tn ⟨fun _ => HS17, ?_⟩)
  refine wjV (k := 8) rfl HS17 (fun W HW => v_not rfl) ?_
  refine wj_done (by kernel_rfl) ?_
  refine wc_cond rfl (fun c6 => ?_) (fun c6 => ?_)
  rotate_left
  ·have c6p := of_n_f c6
   refine wc_skip ?_
   refine wc_region ?_
   refine wV (v_addi rfl rfl (by omega)) ?_
   refine wM ?_
   refine wl_nil ?_
   exact ⟨i + 1, (sc rfl (sc rfl (sc rfl (sc rfl (sc rfl (sc rfl (sn _))))))), ⟨⟨by omega, upto_succ ha (of_dec (of_n_f c6))⟩, H16.pm (by repeat constructor)⟩, by omega⟩
  have c6p := of_n_t c6
  refine wcR ?_
  refine wA ?_
  refine wl_nil ?_
  refine wc_ret ?_
  first
    | (have q_ := c0p
       first
         | exact ⟨_, res1 rfl rfl, congrArg Value.bool (dec_eq ⟨fun hd => (fit0 c0p).2 ⟨g17p, g22p, by omega, by (have h_ := oT hd; omega)⟩, fun hh => decide_eq_true (by have h_ := (fit0 c0p).1 hh; omega)⟩), H16.pm (Pm.nil _)⟩
         | exact ⟨_, res1 rfl rfl, congrArg Value.bool (dec_f fun hh => by (have h_ := (fit0 c0p).1 hh; first | omega | exact g17p h_.1 | exact g22p h_.2.1)).symm, H16.pm (Pm.nil _)⟩)
    | (have q_ := c1p
       first
         | exact ⟨_, res1 rfl rfl, congrArg Value.bool (dec_eq ⟨fun hd => (fit1 c1p).2 ⟨g37p, by omega, g47p, by (have h_ := oT hd; omega)⟩, fun hh => decide_eq_true (by have h_ := (fit1 c1p).1 hh; omega)⟩), H16.pm (Pm.nil _)⟩
         | exact ⟨_, res1 rfl rfl, congrArg Value.bool (dec_f fun hh => by (have h_ := (fit1 c1p).1 hh; first | omega | exact g37p h_.1 | exact g47p h_.2.2.1)).symm, H16.pm (Pm.nil _)⟩)
    | (have q_ := c2p
       first
         | exact ⟨_, res1 rfl rfl, congrArg Value.bool (dec_eq ⟨fun hd => (fit2 c2p).2 ⟨g57p, by omega, by (have h_ := oT hd; omega)⟩, fun hh => decide_eq_true (by have h_ := (fit2 c2p).1 hh; omega)⟩), H16.pm (Pm.nil _)⟩
         | exact ⟨_, res1 rfl rfl, congrArg Value.bool (dec_f fun hh => by (have h_ := (fit2 c2p).1 hh; first | omega | exact g57p h_.1 | exact g57p h_.1)).symm, H16.pm (Pm.nil _)⟩)
    | exact ⟨_, res1 rfl rfl, congrArg Value.bool (dec_f (fitx c0p c1p c2p c3p)).symm, H16.pm (Pm.nil _)⟩
    | (have q_ := c6p
       exact ⟨_, res1 rfl rfl, congrArg Value.bool (dec_f fun hh => of_ndec (of_n_t c6) ((fitNs_iff _ _).1 ((fit3_f c3p hp).1 hh).2.2.2 i hin)).symm, H16.pm (Pm.nil _)⟩)
    | (have q_ := c5p
       exact ⟨_, res1 rfl rfl, congrArg Value.bool (dec_t ((fit3_f c3p hp).2 ⟨g93p, by omega, by omega, (fitNs_iff _ _).2 fun j hj => ha j (by omega)⟩)).symm, H16.pm (Pm.nil _)⟩)
    | (exact ⟨_, res1 rfl rfl, congrArg Value.bool (dec_f fun hh => by
         obtain ⟨p, hp, h1_, h2_, h3_, _⟩ := (fit3 c3p).1 hh
         first
           | (have h_ := hq4.symm.trans g82p; rw [hp] at h_; cases h_; done)
           | (rw [ofF_get hp] at g93p; exact g93p h1_)
           | omega
           | (have h_ := hq5 p hp; rw [h_] at c4p; omega)).symm, H16.pm (Pm.nil _)⟩)

theorem dvalue_calls {P : List (ByteArray × Ct)} : ∀ t : Nd, ValDOk P t := Tr.ind fun x kids ih => fun w B k bd b0 b1 b2 ns name fC hds hr hf => dvalue_step (t := .mk x kids) hds hr hf ih

set_option maxHeartbeats 1600000 in
set_option maxRecDepth 100000 in
theorem ptyped_calls {l : List Dt} {t : Nd} {A B : Option Addr} {cd k : Nat} {name : ByteArray} {w : World} (hl : DOk l) (hd : Rd kDt w A l) (hr : Rd (kTr fNd) w B t.kids) (hf : t.All smallN) :
    Calls Try.prog 21 #[.slice A l.length cd, .agg #[.int .i64 t.x.kind, .string t.x.name, .int .i64 t.x.tok, .slice B t.kids.length k], .string name] w fun e w' => ∃ v, e = .returned v ∧ v = .bool (dec (TypedOk l t name)) ∧ Holds w [] w' := by
  refine calls_of Try.func21 rfl Try.ntmps21 rfl ?_
  have H := Holds.start w
  refine wcR ?_
  refine wl_box (cs := [_, _, _, _]) H rfl rfl rfl ?_
  intro b4 w1 hb4 H2
  refine wA ?_
  refine wl_nil ?_
  refine wcR ?_
  refine wM ?_
  refine wl_call en48 rfl rfl (known_calls hl hd H2) ?_
  rintro _ w3 ⟨bd, b0, b1, b2, fC, rfl, H3, hkf⟩
  refine wM ?_
  refine wV (v_extract rfl rfl) ?_
  refine wV (v_extract rfl rfl) ?_
  refine wA ?_
  refine wA ?_
  refine wl_nil ?_
  refine wcR ?_
  refine wM ?_
  refine wV (v_eql rfl rfl) ?_
  refine wM ?_
  refine wl_guard rfl rfl rfl (fun g16 => ?_) (fun g16 => ?_)
  rotate_left
  ·have g16p := oF g16
   refine wF g16 ?_
   refine wF g16 ?_
   refine wF g16 ?_
   refine wV (v_pick_f rfl g16 rfl) ?_
   refine wA ?_
   refine wl_nil ?_
   refine wc_ret ?_
   first
     | (have q_ := hC
        exact ⟨_, res1 rfl rfl, congrArg Value.bool (dec_iff ⟨fun h => ⟨g16p, h⟩, fun h => h.2⟩), H3.pm (Pm.nil _)⟩)
     | exact ⟨_, res1 rfl rfl, congrArg Value.bool (dec_f fun hh => g16p hh.1).symm, H3.pm (Pm.nil _)⟩
  have g16p := oT g16
  obtain ⟨hC, HF⟩ := hkf g16p
  replace H3 := HF
  refine wM ?_
  refine wO g16 ?_
  refine wV (v_loadN agg24 rfl rfl (H3.ats (by repeat constructor))) ?_
  refine wO g16 ?_
  refine wM ?_
  refine wO g16 ?_
  refine wl_call en53 rfl rfl (dvalue_calls t _ _ _ bd b0 b1 b2 (nms l) name fC (dsr_of hC H3 (by repeat constructor) (by repeat constructor) (by repeat constructor) (by repeat constructor)) (hr.below H3.old) hf) ?_
  rintro _ w4 ⟨rfl, Hc⟩
  have H5 := H3.call0 Hc
  refine wV (v_pick_t rfl g16 rfl) ?_
  refine wA ?_
  refine wl_nil ?_
  refine wc_ret ?_
  first
    | (have q_ := hC
       exact ⟨_, res1 rfl rfl, congrArg Value.bool (dec_iff ⟨fun h => ⟨g16p, h⟩, fun h => h.2⟩), H5.pm (Pm.nil _)⟩)
    | exact ⟨_, res1 rfl rfl, congrArg Value.bool (dec_f fun hh => g16p hh.1).symm, H5.pm (Pm.nil _)⟩
end Go.Proofs.Ytgdemplcpcacaaa.PTyped

/-! The functions answer on the grammar of one production. -/
namespace Go.Proofs.Ytgdemplcpcacaaa.AliveB
open Go Go.RowKit Go.Proofs.YtgdemplcpcacaaaFx Go.Proofs.Ytgdemplcpcacaaa.WriteW Go.Proofs.Ytgdemplcpcacaaa.PValue Go.Proofs.Ytgdemplcpcacaaa.PCheck Go.Proofs.Ytgdemplcpcacaaa.PTyped
theorem agg24 : Agg Try.prog 24 4 := agg_of Try.underlying24 (by kernel_rfl)
theorem agg44 : Agg Try.prog 44 5 := agg_of Try.underlying44 (by kernel_rfl)
theorem ba44 : BuildAt Try.prog 44 [.slice none 0 0, .slice none 0 0, .slice none 0 0, .slice none 0 0, .int .i64 0] [(0, 1), (1, 1), (2, 1), (3, 1), (4, 1)] := build_at Try.underlying44 (by kernel_rfl) (by kernel_rfl)
theorem ba50 : BuildAt Try.prog 50 [.int .i64 0, .int .i64 0, .slice none 0 0] [(0, 1), (1, 1), (2, 1)] := build_at Try.underlying50 (by kernel_rfl) (by kernel_rfl)
theorem ba69 : BuildAt Try.prog 69 [.int .i64 0, .int .i64 0, .string ⟨#[]⟩, .slice none 0 0] [(0, 1), (1, 1), (2, 1), (3, 1)] := build_at Try.underlying69 (by kernel_rfl) (by kernel_rfl)
theorem ba73 : BuildAt Try.prog 73 [.int .i64 0, .slice none 0 0, .int .i64 0, .int .i64 0, .int .i64 0, .string ⟨#[]⟩, .slice none 0 0] [(0, 1), (1, 1), (2, 1), (3, 4)] := build_at Try.underlying73 (by kernel_rfl) (by kernel_rfl)
theorem ba80 : BuildAt Try.prog 80 [.string ⟨#[]⟩, .slice none 0 0] [(0, 1), (1, 1)] := build_at Try.underlying80 (by kernel_rfl) (by kernel_rfl)
theorem ba83 : BuildAt Try.prog 83 [.string ⟨#[]⟩, .slice none 0 0] [(0, 1), (1, 1)] := build_at Try.underlying83 (by kernel_rfl) (by kernel_rfl)
theorem ba85 : BuildAt Try.prog 85 [.int .i64 0, .int .i64 0, .int .i64 0] [(0, 1), (1, 1), (2, 1)] := build_at Try.underlying85 (by kernel_rfl) (by kernel_rfl)
theorem en11 : Enters Try.prog 11 := enters Try.func11 (by kernel_rfl) rfl
theorem en16 : Enters Try.prog 16 := enters Try.func16 (by kernel_rfl) rfl
theorem en19 : Enters Try.prog 19 := enters Try.func19 (by kernel_rfl) rfl
theorem en21 : Enters Try.prog 21 := enters Try.func21 (by kernel_rfl) rfl
theorem info145 : (Try.prog.info? 145).map (fun i => (i.zero, i.size, i.bytes)) = some (some (.agg #[.int .i64 0, .int .i64 0]), 2, 16) := by kernel_rfl
theorem sz24 : ∀ W, (sizeOf 24).run Try.prog W = .ok 4 W := size_of (by kernel_rfl)
theorem sz3 : ∀ W, (sizeOf 3).run Try.prog W = .ok 1 W := size_of (by kernel_rfl)
theorem sz44 : ∀ W, (sizeOf 44).run Try.prog W = .ok 5 W := size_of (by kernel_rfl)
theorem sz50 : ∀ W, (sizeOf 50).run Try.prog W = .ok 3 W := size_of (by kernel_rfl)
theorem sz69 : ∀ W, (sizeOf 69).run Try.prog W = .ok 4 W := size_of (by kernel_rfl)
theorem sz73 : ∀ W, (sizeOf 73).run Try.prog W = .ok 7 W := size_of (by kernel_rfl)
theorem sz80 : ∀ W, (sizeOf 80).run Try.prog W = .ok 2 W := size_of (by kernel_rfl)
theorem sz83 : ∀ W, (sizeOf 83).run Try.prog W = .ok 2 W := size_of (by kernel_rfl)
theorem sz85 : ∀ W, (sizeOf 85).run Try.prog W = .ok 3 W := size_of (by kernel_rfl)
theorem sz9 : ∀ W, (sizeOf 9).run Try.prog W = .ok 1 W := size_of (by kernel_rfl)
theorem zv24 : ∀ W, (zeroValue 24).run Try.prog W = .ok (.agg #[.int .i64 0, .string ⟨#[]⟩, .int .i64 0, .slice none 0 0]) W := zero_of (by kernel_rfl)
theorem zv3 : ∀ W, (zeroValue 3).run Try.prog W = .ok (.int .i64 0) W := zero_of (by kernel_rfl)
theorem zv44 : ∀ W, (zeroValue 44).run Try.prog W = .ok (.agg #[.slice none 0 0, .slice none 0 0, .slice none 0 0, .slice none 0 0, .int .i64 0]) W := zero_of (by kernel_rfl)
theorem zv50 : ∀ W, (zeroValue 50).run Try.prog W = .ok (.agg #[.int .i64 0, .int .i64 0, .slice none 0 0]) W := zero_of (by kernel_rfl)
theorem zv69 : ∀ W, (zeroValue 69).run Try.prog W = .ok (.agg #[.int .i64 0, .int .i64 0, .string ⟨#[]⟩, .slice none 0 0]) W := zero_of (by kernel_rfl)
theorem zv73 : ∀ W, (zeroValue 73).run Try.prog W = .ok (.agg #[.int .i64 0, .slice none 0 0, .int .i64 0, .int .i64 0, .int .i64 0, .string ⟨#[]⟩, .slice none 0 0]) W := zero_of (by kernel_rfl)
theorem zv80 : ∀ W, (zeroValue 80).run Try.prog W = .ok (.agg #[.string ⟨#[]⟩, .slice none 0 0]) W := zero_of (by kernel_rfl)
theorem zv83 : ∀ W, (zeroValue 83).run Try.prog W = .ok (.agg #[.string ⟨#[]⟩, .slice none 0 0]) W := zero_of (by kernel_rfl)
theorem zv85 : ∀ W, (zeroValue 85).run Try.prog W = .ok (.agg #[.int .i64 0, .int .i64 0, .int .i64 0]) W := zero_of (by kernel_rfl)
theorem zv9 : ∀ W, (zeroValue 9).run Try.prog W = .ok (.string ⟨#[]⟩) W := zero_of (by kernel_rfl)

theorem g_check {w : World} {b9 b11 b17 : Nat} {A10 : Option Addr} {b23 b27 : Nat} (h : gG.rd w ⟨some ⟨b9, 0, none⟩, 3, A10, 3, some ⟨b11, 0, none⟩, 1, some ⟨b17, 0, none⟩, 1⟩) (hl : Rd kDt w (some ⟨b23, 0, none⟩) gL) (ht : Rd kStr w (some ⟨b27, 0, none⟩) gTy) : Calls Try.prog 19 #[.agg #[.slice (some ⟨b9, 0, none⟩) 3 3, .slice A10 3 3, .slice (some ⟨b11, 0, none⟩) 1 1, .slice (some ⟨b17, 0, none⟩) 1 1, .int .i64 0], .slice (some ⟨b23, 0, none⟩) 1 1, .slice (some ⟨b27, 0, none⟩) 1 1] w fun e w' => ∃ v, e = .returned v ∧ v = .tuple #[.int .i64 0, .int .i64 0] ∧ Holds w [] w' := by
  refine (pcheck_calls (cd := 1) (kt := 1) gG_okk h gL_ok hl ht (by decide) (by decide)).mono ?_
  rintro e w' ⟨v, he, p, q, rfl, h1, h2, H⟩
  obtain rfl := h1.2 gC
  obtain rfl := h2 rfl
  exact ⟨_, he, rfl, H⟩

theorem g_value {w : World} {b9 b11 b17 : Nat} {A10 : Option Addr} {b34 b36 : Nat} (h : gG.rd w ⟨some ⟨b9, 0, none⟩, 3, A10, 3, some ⟨b11, 0, none⟩, 1, some ⟨b17, 0, none⟩, 1⟩) (hd : Rd (kTr fDv) w (some ⟨b34, 0, none⟩) gD.kids) (hr : Rd (kInt .i64) w (some ⟨b36, 0, none⟩) [2]) : Calls Try.prog 16 #[.agg #[.slice (some ⟨b9, 0, none⟩) 3 3, .slice A10 3 3, .slice (some ⟨b11, 0, none⟩) 1 1, .slice (some ⟨b17, 0, none⟩) 1 1, .int .i64 0], .agg #[.int .i64 0, .int .i64 0, .slice (some ⟨b34, 0, none⟩) 1 1], .slice (some ⟨b36, 0, none⟩) 1 1] w fun e w' => ∃ v, e = .returned v ∧ ∃ A c, v = .tuple #[.agg #[.int .i64 3, .string ⟨#[78]⟩, .int .i64 0, .slice A 1 c], .int .i64 0] ∧ Holds w [ORow fNd 24 (.slice A 1 c) gN.kids] w' := by
  have h1 := pvalue_calls (k := 1) (cr := 1) (d := gD) (row := [2]) gG_okk h hd hr (by decide) (by decide)
  rw [gE.1, gE.2] at h1
  exact h1

theorem g_text {w : World} {b43 c : Nat} {A : Option Addr} (h : Rd fTk.kn w (some ⟨b43, 0, none⟩) gTk) (hr : Rd (kTr fNd) w A gN.kids) : Calls Try.prog 11 #[.agg #[.int .i64 3, .string ⟨#[78]⟩, .int .i64 0, .slice A 1 c], .string gSrc, .slice (some ⟨b43, 0, none⟩) 1 1] w fun e w' => ∃ v, e = .returned v ∧ v = .tuple #[.string ⟨#[78, 40, 34, 55, 34, 41]⟩, .int .i64 0] ∧ Holds w [] w' := by
  have h1 := ptext_calls (src := gSrc) (t := gN) (k := c) (kt := 1) (by decide) (by decide) h hr gN_small (by decide)
  rw [gX.1, gX.2] at h1
  exact h1

theorem g_typed {w : World} {b23 c : Nat} {A : Option Addr} (hl : Rd kDt w (some ⟨b23, 0, none⟩) gL) (hr : Rd (kTr fNd) w A gN.kids) : Calls Try.prog 21 #[.slice (some ⟨b23, 0, none⟩) 1 1, .agg #[.int .i64 3, .string ⟨#[78]⟩, .int .i64 0, .slice A 1 c], .string ⟨#[69]⟩] w fun e w' => ∃ v, e = .returned v ∧ v = .bool true ∧ Holds w [] w' := by
  have h1 := ptyped_calls (cd := 1) (k := c) (t := gN) (name := ⟨#[69]⟩) gL_ok hl hr gN_small
  rw [dec_t (show TypedOk gL gN ⟨#[69]⟩ from ⟨gL_e, gF⟩)] at h1
  exact h1

set_option maxHeartbeats 6400000 in
set_option maxRecDepth 100000 in
theorem alive_calls {w : World} : Calls Try.prog 10 #[] w fun e w' => ∃ v, e = .returned v ∧ v = .bool true ∧ Holds w [] w' := by
  refine calls_of Try.func10 rfl Try.ntmps10 rfl ?_
  have H := Holds.start w
  refine wcR ?_
  refine wA ?_
  refine wl_nil ?_
  refine wcR ?_
  refine wl_slit (v := .string ⟨#[]⟩) (z := [.string ⟨#[]⟩, .string ⟨#[]⟩, .string ⟨#[]⟩]) (cs := [.string ⟨#[101, 110, 100]⟩, .string ⟨#[101, 114, 114, 111, 114]⟩, .string ⟨#[110]⟩]) (sz := 1) H rfl Try.underlying40 sz9 zv9 (by decide) (by decide) (by kernel_rfl) rfl (by repeat constructor) ?_
  intro b9 w1 hb9 H1 hs1
  refine wl_make (f := fMv) (z' := mv0) (e := 145) (q := 3) H1 rfl Try.underlying41 info145 rfl (by decide) rfl rfl (by decide) (by decide) (by decide) ?_
  intro A10 w2 H2 hs2
  refine wl_slit (v := .string ⟨#[]⟩) (z := [.string ⟨#[]⟩]) (cs := [.string ⟨#[101]⟩]) (sz := 1) H2 rfl Try.underlying40 sz9 zv9 (by decide) (by decide) (by kernel_rfl) rfl (by repeat constructor) ?_
  intro b11 w3 hb11 H3 hs3
  refine wl_slit (v := .int .i64 0) (z := [.int .i64 0]) (cs := [.int .i64 2]) (sz := 1) H3 rfl Try.underlying51 sz3 zv3 (by decide) (by decide) (by kernel_rfl) rfl (by repeat constructor) ?_
  intro b12 w4 hb12 H4 hs4
  refine wV (v_bld ba69 rfl (by repeat constructor)) ?_
  refine wl_slit (v := .agg #[.int .i64 0, .int .i64 0, .string ⟨#[]⟩, .slice none 0 0]) (z := [.int .i64 0, .int .i64 0, .string ⟨#[]⟩, .slice none 0 0]) (cs := [.int .i64 1, .int .i64 0, .string ⟨#[]⟩, .slice none 0 0]) (sz := 4) H4 rfl Try.underlying67 sz69 zv69 (by decide) (by decide) (by kernel_rfl) rfl (by repeat constructor) ?_
  intro b14 w5 hb14 H5 hs5
  refine wV (v_bld ba69 rfl (by repeat constructor)) ?_
  refine wV (v_bld ba73 rfl (by repeat constructor)) ?_
  refine wl_slit (v := .agg #[.int .i64 0, .slice none 0 0, .int .i64 0, .int .i64 0, .int .i64 0, .string ⟨#[]⟩, .slice none 0 0]) (z := [.int .i64 0, .slice none 0 0, .int .i64 0, .int .i64 0, .int .i64 0, .string ⟨#[]⟩, .slice none 0 0]) (cs := [.int .i64 0, .slice (some ⟨b12, 0, none⟩) 1 1, .int .i64 0, .int .i64 2, .int .i64 0, .string ⟨#[78]⟩, .slice (some ⟨b14, 0, none⟩) 1 1]) (sz := 7) H5 rfl Try.underlying42 sz73 zv73 (by decide) (by decide) (by kernel_rfl) rfl (by repeat constructor) ?_
  intro b17 w6 hb17 H6 hs6
  refine wV (v_bld ba44 rfl (by repeat constructor)) ?_
  refine wl_alloc (cs := [.slice none 0 0, .slice none 0 0, .slice none 0 0, .slice none 0 0, .int .i64 0]) H6 rfl zv44 rfl ?_
  intro b1 w7 hb1 H8
  refine wl_store (vs := [_, _, _, _, _]) H8 (by repeat constructor) sz44 rfl rfl rfl rfl rfl (by (repeat constructor)) ?_
  intro w9 H10 hw9
  refine wl_nil ?_
  refine wcR ?_
  refine wl_slit (v := .string ⟨#[]⟩) (z := [.string ⟨#[]⟩]) (cs := [.string tx]) (sz := 1) H10 rfl Try.underlying40 sz9 zv9 (by decide) (by decide) (by kernel_rfl) rfl (by repeat constructor) ?_
  intro b19 w11 hb19 H11 hs11
  refine wV (v_bld ba80 rfl (by repeat constructor)) ?_
  refine wl_slit (v := .agg #[.string ⟨#[]⟩, .slice none 0 0]) (z := [.string ⟨#[]⟩, .slice none 0 0]) (cs := [.string ⟨#[78]⟩, .slice (some ⟨b19, 0, none⟩) 1 1]) (sz := 2) H11 rfl Try.underlying81 sz80 zv80 (by decide) (by decide) (by kernel_rfl) rfl (by repeat constructor) ?_
  intro b21 w12 hb21 H12 hs12
  refine wV (v_bld ba83 rfl (by repeat constructor)) ?_
  refine wl_slit (v := .agg #[.string ⟨#[]⟩, .slice none 0 0]) (z := [.string ⟨#[]⟩, .slice none 0 0]) (cs := [.string ⟨#[69]⟩, .slice (some ⟨b21, 0, none⟩) 1 1]) (sz := 2) H12 rfl Try.underlying45 sz83 zv83 (by decide) (by decide) (by kernel_rfl) rfl (by repeat constructor) ?_
  intro b23 w13 hb23 H13 hs13
  refine wA ?_
  refine wl_nil ?_
  refine wcR ?_
  refine wV (v_loadN agg44 rfl rfl (H13.ats (by repeat constructor))) ?_
  refine wM ?_
  refine wl_slit (v := .string ⟨#[]⟩) (z := [.string ⟨#[]⟩]) (cs := [.string ⟨#[69]⟩]) (sz := 1) H13 rfl Try.underlying40 sz9 zv9 (by decide) (by decide) (by kernel_rfl) rfl (by repeat constructor) ?_
  intro b27 w14 hb27 H14 hs14
  refine wl_call en19 rfl rfl (g_check (gG_rd (b12 := b12) (b14 := b14) H14 (by repeat constructor) (by repeat constructor) (by repeat constructor) (by repeat constructor) (by repeat constructor) (by repeat constructor)) (gL_rd H14 (by repeat constructor) (by repeat constructor) (by repeat constructor)) (gTy_rd H14 (by repeat constructor))) ?_
  rintro _ w15 ⟨rfl, Hc⟩
  have H16 := H14.call0 Hc
  refine wM ?_
  refine wV (v_extract rfl rfl) ?_
  refine wV (v_extract rfl rfl) ?_
  refine wA ?_
  refine wA ?_
  refine wl_nil ?_
  refine wcR ?_
  refine wV (v_loadN agg44 rfl rfl (H16.ats (by repeat constructor))) ?_
  refine wV (v_bld ba50 rfl (by repeat constructor)) ?_
  refine wl_slit (v := .agg #[.int .i64 0, .int .i64 0, .slice none 0 0]) (z := [.int .i64 0, .int .i64 0, .slice none 0 0]) (cs := [.int .i64 (-1), .int .i64 0, .slice none 0 0]) (sz := 3) H16 rfl Try.underlying48 sz50 zv50 (by decide) (by decide) (by kernel_rfl) rfl (by repeat constructor) ?_
  intro b34 w17 hb34 H17 hs17
  refine wV (v_bld ba50 rfl (by repeat constructor)) ?_
  refine wl_slit (v := .int .i64 0) (z := [.int .i64 0]) (cs := [.int .i64 2]) (sz := 1) H17 rfl Try.underlying51 sz3 zv3 (by decide) (by decide) (by kernel_rfl) rfl (by repeat constructor) ?_
  intro b36 w18 hb36 H18 hs18
  refine wl_call en16 rfl rfl (g_value (gG_rd (b12 := b12) (b14 := b14) H18 (by repeat constructor) (by repeat constructor) (by repeat constructor) (by repeat constructor) (by repeat constructor) (by repeat constructor)) (gD_rd H18 (by repeat constructor)) (gRow_rd (b := b36) H18 (by repeat constructor))) ?_
  rintro _ w19 ⟨A5, c5, rfl, Hc⟩
  have H20 := H18.call Hc
  refine wM ?_
  refine wV (v_extract rfl rfl) ?_
  refine wV (v_extract rfl rfl) ?_
  refine wl_alloc (cs := [.int .i64 0, .string ⟨#[]⟩, .int .i64 0, .slice none 0 0]) H20 rfl zv24 rfl ?_
  intro b5 w21 hb5 H22
  refine wl_store (vs := [_, _, _, _]) H22 (by repeat constructor) sz24 rfl rfl rfl rfl rfl (by (repeat constructor)) ?_
  intro w23 H24 hw23
  refine wA ?_
  refine wl_nil ?_
  refine wcR ?_
  refine wV (v_loadN agg24 rfl rfl (H24.ats (by repeat constructor))) ?_
  refine wV (v_bld ba85 rfl (by repeat constructor)) ?_
  refine wl_slit (v := .agg #[.int .i64 0, .int .i64 0, .int .i64 0]) (z := [.int .i64 0, .int .i64 0, .int .i64 0]) (cs := [.int .i64 2, .int .i64 0, .int .i64 1]) (sz := 3) H24 rfl Try.underlying25 sz85 zv85 (by decide) (by decide) (by kernel_rfl) rfl (by repeat constructor) ?_
  intro b43 w25 hb43 H25 hs25
  refine wl_call en11 rfl rfl (g_text (gTk_rd H25 (by repeat constructor)) (H25.oRd (f := fNd) (e := 24) (x := ⟨0, ⟨#[]⟩, 0⟩) (by repeat constructor))) ?_
  rintro _ w26 ⟨rfl, Hc⟩
  have H27 := H25.call0 Hc
  refine wM ?_
  refine wV (v_extract rfl rfl) ?_
  refine wV (v_extract rfl rfl) ?_
  refine wA ?_
  refine wA ?_
  refine wl_nil ?_
  refine wcR ?_
  refine wM ?_
  refine wV (v_eql rfl rfl) ?_
  refine wM ?_
  refine wl_guard rfl rfl rfl (fun g49 => ?_) (fun g49 => ?_)
  rotate_left
  ·have g49p := oF g49
   exact absurd g49 (by decide)
  have g49p := oT g49
  refine wM ?_
  refine wO g49 ?_
  refine wV (v_eql rfl rfl) ?_
  refine wV (v_pick_t rfl g49 rfl) ?_
  refine wM ?_
  refine wl_guard rfl rfl rfl (fun g53 => ?_) (fun g53 => ?_)
  rotate_left
  ·have g53p := oF g53
   exact absurd g53 (by decide)
  have g53p := oT g53
  refine wM ?_
  refine wO g53 ?_
  refine wV (v_eql rfl rfl) ?_
  refine wV (v_pick_t rfl g53 rfl) ?_
  refine wM ?_
  refine wl_guard rfl rfl rfl (fun g57 => ?_) (fun g57 => ?_)
  rotate_left
  ·have g57p := oF g57
   exact absurd g57 (by decide)
  have g57p := oT g57
  refine wM ?_
  refine wO g57 ?_
  refine wV (v_eqls rfl rfl) ?_
  refine wV (v_pick_t rfl g57 rfl) ?_
  refine wM ?_
  refine wl_guard rfl rfl rfl (fun g61 => ?_) (fun g61 => ?_)
  rotate_left
  ·have g61p := oF g61
   exact absurd g61 (by decide)
  have g61p := oT g61
  refine wM ?_
  refine wO g61 ?_
  refine wV (v_eql rfl rfl) ?_
  refine wV (v_pick_t rfl g61 rfl) ?_
  refine wM ?_
  refine wl_guard rfl rfl rfl (fun g65 => ?_) (fun g65 => ?_)
  rotate_left
  ·have g65p := oF g65
   exact absurd g65 (by decide)
  have g65p := oT g65
  refine wM ?_
  refine wO g65 ?_
  refine wV (v_loadN agg24 rfl rfl (H27.ats (by repeat constructor))) ?_
  refine wO g65 ?_
  refine wl_call en21 rfl rfl (g_typed (gL_rd H27 (by repeat constructor) (by repeat constructor) (by repeat constructor)) (H27.oRd (f := fNd) (e := 24) (x := ⟨0, ⟨#[]⟩, 0⟩) (by repeat constructor))) ?_
  rintro _ w28 ⟨rfl, Hc⟩
  have H29 := H27.call0 Hc
  refine wV (v_pick_t rfl g65 rfl) ?_
  refine wA ?_
  refine wl_nil ?_
  refine wc_ret ?_
  exact ⟨_, res1 rfl rfl, rfl, H29.pm (by repeat (first | exact pm_refl _ | constructor | refine pm_skip ?_))⟩
end Go.Proofs.Ytgdemplcpcacaaa.AliveB

/-! Pieces of texts, as the document finds them. -/
namespace Go.Proofs.YtgdemplcpcacaaaFx
open Go Go.RowKit
/-- The byte at a place. -/
def bt (s : ByteArray) (i k : Nat) : Nat := byA s (i + k)
/-- The number that n bytes at a place tell. -/
def cnd (s : ByteArray) (i n : Nat) : Nat :=
  if n = 1 then bt s i 0 else if n = 2 then bt s i 0 % 32 * 64 + bt s i 1 % 64 else if n = 3 then bt s i 0 % 16 * 4096 + bt s i 1 % 64 * 64 + bt s i 2 % 64 else bt s i 0 % 8 * 262144 + bt s i 1 % 64 * 4096 + bt s i 2 % 64 * 64 + bt s i 3 % 64
/-- These n bytes are a rune's. -/
def isR (s : ByteArray) (i n : Nat) : Prop := i + n ≤ s.size ∧ Utf8.valid (cnd s i n) = true ∧ Utf8.encode (cnd s i n) = s.extract i (i + n)
theorem ext_at {s : ByteArray} {i n k : Nat} (hn : i + n ≤ s.size) (hk : k < n) : (s.extract i (i + n)).data.getD k 0 = s.data.getD (i + k) 0 := by
  rw [Array.getD_eq_getD_getElem?, Array.getD_eq_getD_getElem?]
  congr 1
  have e : (s.extract i (i + n)).data = s.data.extract i (i + n) := by simp
  rw [e, Array.getElem?_extract]
  rw [if_pos (by have h : s.data.size = s.size := rfl; omega)]
theorem ext_list {s : ByteArray} {i n : Nat} (hn : i + n ≤ s.size) (l : List UInt8) (hl : l.length = n) : (⟨l.toArray⟩ : ByteArray) = s.extract i (i + n) ↔ ∀ k, k < n → (l.getD k 0).toNat = bt s i k := by
  constructor
  · intro h k hk
    have h2 := ext_at hn hk
    rw [← h] at h2
    unfold bt byA
    rw [← h2]
    simp [Array.getD_eq_getD_getElem?, List.getD_eq_getElem?_getD]
  · intro h
    have hs : (s.extract i (i + n)).size = n := by rw [ByteArray.size_extract]; omega
    apply ByteArray.ext
    apply Array.ext
    · show l.toArray.size = (s.extract i (i + n)).size
      rw [hs]
      simpa using hl
    · intro k h1 h2
      have hk : k < n := by rw [← hl]; simpa using h1
      have h3 := ext_at hn hk
      have h4 := h k hk
      unfold bt byA at h4
      rw [← h3] at h4
      have h5 := UInt8.toNat_inj.1 h4
      rw [Array.getD_eq_getD_getElem?, Array.getElem?_eq_getElem h2, List.getD_eq_getElem?_getD, List.getElem?_eq_getElem (by omega)] at h5
      simpa using h5
theorem of_toNat {n : Nat} (h : n < 256) : (UInt8.ofNat n).toNat = n := by
  rw [UInt8.toNat_ofNat']
  omega
theorem enc_is {c : Nat} (hv : Utf8.valid (c : Int) = true) : Utf8.encode (c : Int) = ⟨(if c < 128 then [UInt8.ofNat c] else if c < 2048 then [UInt8.ofNat (192 + c / 64), UInt8.ofNat (128 + c % 64)] else if c < 65536 then [UInt8.ofNat (224 + c / 4096), UInt8.ofNat (128 + c / 64 % 64), UInt8.ofNat (128 + c % 64)] else [UInt8.ofNat (240 + c / 262144), UInt8.ofNat (128 + c / 4096 % 64), UInt8.ofNat (128 + c / 64 % 64), UInt8.ofNat (128 + c % 64)]).toArray⟩ := by
  unfold Utf8.encode
  simp only [hv, if_true, Int.toNat_natCast]
  split
  · rfl
  · split
    · rfl
    · split <;> rfl
theorem bt_lt (s : ByteArray) (i k : Nat) : bt s i k < 256 := byA_lt s (i + k)
/-- What decode reads. -/
theorem dec_at {s : ByteArray} {i k : Nat} (h : i + k < s.size) : ((s.extract i s.size).get! (0 + k)).toNat = bt s i k := by
  have h1 : i + (s.size - i) ≤ s.size := by omega
  have h2 := ext_at (s := s) (i := i) (n := s.size - i) (k := k) h1 (by omega)
  rw [show i + (s.size - i) = s.size by omega] at h2
  unfold bt byA
  rw [← h2, Nat.zero_add]
  have hk : k < (s.extract i s.size).data.size := by
    have : (s.extract i s.size).size = s.size - i := by rw [ByteArray.size_extract]; omega
    have h3 : (s.extract i s.size).data.size = (s.extract i s.size).size := rfl
    omega
  show ((s.extract i s.size).data[k]!).toNat = _
  rw [getElem!_pos (s.extract i s.size).data k hk, Array.getD_eq_getD_getElem?, Array.getElem?_eq_getElem hk]
  rfl
theorem dec_any {s : ByteArray} {i : Nat} (k : Nat) (hi : i ≤ s.size) : ((s.extract i s.size).get! (0 + k)).toNat = bt s i k := by
  rcases Nat.lt_or_ge (i + k) s.size with h | h
  · exact dec_at h
  · have h1 : (s.extract i s.size).data.size = s.size - i := by
      have : (s.extract i s.size).size = s.size - i := by rw [ByteArray.size_extract]; omega
      exact this
    have h2 : s.data.size = s.size := rfl
    rw [Nat.zero_add]
    show ((s.extract i s.size).data[k]!).toNat = _
    rw [getElem!_neg (s.extract i s.size).data k (by omega)]
    unfold bt byA
    rw [Array.getD_eq_getD_getElem?, Array.getElem?_eq_none (by omega)]
    rfl
section
variable {s : ByteArray} {i : Nat}
theorem isR_size {n : Nat} (h : isR s i n) : n = (if (cnd s i n : Int) < 128 then 1 else if (cnd s i n : Int) < 2048 then 2 else if (cnd s i n : Int) < 65536 then 3 else 4) := by
  obtain ⟨hn, hv, he⟩ := h
  have := congrArg ByteArray.size he
  rw [enc_size hv, ByteArray.size_extract] at this
  omega
theorem isR1 (hn : i + 1 ≤ s.size) : isR s i 1 ↔ bt s i 0 < 128 := by
  have hb := bt_lt s i 0
  have hc : cnd s i 1 = bt s i 0 := rfl
  constructor
  · intro h
    have := isR_size h
    rw [hc] at this
    split at this
    · omega
    · split at this
      · omega
      · split at this <;> omega
  · intro h
    have hv : Utf8.valid (cnd s i 1 : Int) = true := (valid_iff _).2 (.inl (by omega))
    refine ⟨hn, hv, ?_⟩
    rw [enc_is hv, if_pos (by omega)]
    refine (ext_list hn _ rfl).2 fun k hk => ?_
    obtain rfl : k = 0 := by omega
    show (UInt8.ofNat (cnd s i 1)).toNat = _
    rw [of_toNat (by omega), hc]
theorem isR2 (hn : i + 2 ≤ s.size) : isR s i 2 ↔ (bt s i 0 / 32 = 6 ∧ bt s i 1 / 64 = 2) ∧ 128 ≤ cnd s i 2 := by
  have hb0 := bt_lt s i 0
  have hb1 := bt_lt s i 1
  have hc : cnd s i 2 = bt s i 0 % 32 * 64 + bt s i 1 % 64 := rfl
  constructor
  · intro h
    have h2 := isR_size h
    obtain ⟨_, hv, he⟩ := h
    have h3 : 128 ≤ cnd s i 2 ∧ cnd s i 2 < 2048 := by
      split at h2
      · omega
      · split at h2
        · omega
        · split at h2 <;> omega
    rw [enc_is hv, if_neg (by omega), if_pos (by omega)] at he
    have h4 := (ext_list hn _ rfl).1 he
    have k0 : (UInt8.ofNat (192 + cnd s i 2 / 64)).toNat = bt s i 0 := h4 0 (by omega)
    have k1 : (UInt8.ofNat (128 + cnd s i 2 % 64)).toNat = bt s i 1 := h4 1 (by omega)
    rw [of_toNat (by omega)] at k0 k1
    omega
  · rintro ⟨⟨h0, h1⟩, h2⟩
    have hv : Utf8.valid (cnd s i 2 : Int) = true := (valid_iff _).2 (.inl (by omega))
    refine ⟨hn, hv, ?_⟩
    rw [enc_is hv, if_neg (by omega), if_pos (by omega)]
    refine (ext_list hn _ rfl).2 fun k hk => ?_
    rcases (by omega : k = 0 ∨ k = 1) with rfl | rfl
    · show (UInt8.ofNat (192 + cnd s i 2 / 64)).toNat = _
      rw [of_toNat (by omega)]; omega
    · show (UInt8.ofNat (128 + cnd s i 2 % 64)).toNat = _
      rw [of_toNat (by omega)]; omega
theorem isR3 (hn : i + 3 ≤ s.size) : isR s i 3 ↔ ((bt s i 0 / 16 = 14 ∧ bt s i 1 / 64 = 2) ∧ bt s i 2 / 64 = 2) ∧ 2048 ≤ cnd s i 3 ∧ Utf8.valid (cnd s i 3 : Int) = true := by
  have hb0 := bt_lt s i 0
  have hb1 := bt_lt s i 1
  have hb2 := bt_lt s i 2
  have hc : cnd s i 3 = bt s i 0 % 16 * 4096 + bt s i 1 % 64 * 64 + bt s i 2 % 64 := rfl
  constructor
  · intro h
    have h2 := isR_size h
    obtain ⟨_, hv, he⟩ := h
    have h3 : 2048 ≤ cnd s i 3 ∧ cnd s i 3 < 65536 := by
      split at h2
      · omega
      · split at h2
        · omega
        · split at h2 <;> omega
    rw [enc_is hv, if_neg (by omega), if_neg (by omega), if_pos (by omega)] at he
    have h4 := (ext_list hn _ rfl).1 he
    have k0 : (UInt8.ofNat (224 + cnd s i 3 / 4096)).toNat = bt s i 0 := h4 0 (by omega)
    have k1 : (UInt8.ofNat (128 + cnd s i 3 / 64 % 64)).toNat = bt s i 1 := h4 1 (by omega)
    have k2 : (UInt8.ofNat (128 + cnd s i 3 % 64)).toNat = bt s i 2 := h4 2 (by omega)
    rw [of_toNat (by omega)] at k0 k1 k2
    exact ⟨by omega, by omega, hv⟩
  · rintro ⟨⟨⟨h0, h1⟩, h2⟩, h3, hv⟩
    refine ⟨hn, hv, ?_⟩
    rw [enc_is hv, if_neg (by omega), if_neg (by omega), if_pos (by omega)]
    refine (ext_list hn _ rfl).2 fun k hk => ?_
    rcases (by omega : k = 0 ∨ k = 1 ∨ k = 2) with rfl | rfl | rfl
    · show (UInt8.ofNat (224 + cnd s i 3 / 4096)).toNat = _
      rw [of_toNat (by omega)]; omega
    · show (UInt8.ofNat (128 + cnd s i 3 / 64 % 64)).toNat = _
      rw [of_toNat (by omega)]; omega
    · show (UInt8.ofNat (128 + cnd s i 3 % 64)).toNat = _
      rw [of_toNat (by omega)]; omega
theorem isR4 (hn : i + 4 ≤ s.size) : isR s i 4 ↔ (((bt s i 0 / 8 = 30 ∧ bt s i 1 / 64 = 2) ∧ bt s i 2 / 64 = 2) ∧ bt s i 3 / 64 = 2) ∧ 65536 ≤ cnd s i 4 ∧ Utf8.valid (cnd s i 4 : Int) = true := by
  have hb0 := bt_lt s i 0
  have hb1 := bt_lt s i 1
  have hb2 := bt_lt s i 2
  have hb3 := bt_lt s i 3
  have hc : cnd s i 4 = bt s i 0 % 8 * 262144 + bt s i 1 % 64 * 4096 + bt s i 2 % 64 * 64 + bt s i 3 % 64 := rfl
  constructor
  · intro h
    have h2 := isR_size h
    obtain ⟨_, hv, he⟩ := h
    have h3 : 65536 ≤ cnd s i 4 := by
      split at h2
      · omega
      · split at h2
        · omega
        · split at h2 <;> omega
    rw [enc_is hv, if_neg (by omega), if_neg (by omega), if_neg (by omega)] at he
    have h4 := (ext_list hn _ rfl).1 he
    have hm := (valid_iff _).1 hv
    have k0 : (UInt8.ofNat (240 + cnd s i 4 / 262144)).toNat = bt s i 0 := h4 0 (by omega)
    have k1 : (UInt8.ofNat (128 + cnd s i 4 / 4096 % 64)).toNat = bt s i 1 := h4 1 (by omega)
    have k2 : (UInt8.ofNat (128 + cnd s i 4 / 64 % 64)).toNat = bt s i 2 := h4 2 (by omega)
    have k3 : (UInt8.ofNat (128 + cnd s i 4 % 64)).toNat = bt s i 3 := h4 3 (by omega)
    rw [of_toNat (by omega)] at k0 k1 k2 k3
    exact ⟨by omega, by omega, hv⟩
  · rintro ⟨⟨⟨⟨h0, h1⟩, h2⟩, h3⟩, h4, hv⟩
    refine ⟨hn, hv, ?_⟩
    rw [enc_is hv, if_neg (by omega), if_neg (by omega), if_neg (by omega)]
    refine (ext_list hn _ rfl).2 fun k hk => ?_
    rcases (by omega : k = 0 ∨ k = 1 ∨ k = 2 ∨ k = 3) with rfl | rfl | rfl | rfl
    · show (UInt8.ofNat (240 + cnd s i 4 / 262144)).toNat = _
      rw [of_toNat (by omega)]; omega
    · show (UInt8.ofNat (128 + cnd s i 4 / 4096 % 64)).toNat = _
      rw [of_toNat (by omega)]; omega
    · show (UInt8.ofNat (128 + cnd s i 4 / 64 % 64)).toNat = _
      rw [of_toNat (by omega)]; omega
    · show (UInt8.ofNat (128 + cnd s i 4 % 64)).toNat = _
      rw [of_toNat (by omega)]; omega
/-- decode, by the bytes. -/
theorem decode_is (hi : i < s.size) : Utf8.decode (s.extract i s.size) 0 = if bt s i 0 < 128 then (bt s i 0, 1)
    else if bt s i 0 / 32 = 6 ∧ i + 2 ≤ s.size ∧ bt s i 1 / 64 = 2 then (if 128 ≤ cnd s i 2 then (cnd s i 2, 2) else (65533, 1))
    else if (bt s i 0 / 16 = 14 ∧ i + 2 ≤ s.size ∧ bt s i 1 / 64 = 2) ∧ i + 3 ≤ s.size ∧ bt s i 2 / 64 = 2 then (if 2048 ≤ cnd s i 3 ∧ Utf8.valid (cnd s i 3 : Int) = true then (cnd s i 3, 3) else (65533, 1))
    else if ((bt s i 0 / 8 = 30 ∧ i + 2 ≤ s.size ∧ bt s i 1 / 64 = 2) ∧ i + 3 ≤ s.size ∧ bt s i 2 / 64 = 2) ∧ i + 4 ≤ s.size ∧ bt s i 3 / 64 = 2 then (if 65536 ≤ cnd s i 4 ∧ Utf8.valid (cnd s i 4 : Int) = true then (cnd s i 4, 4) else (65533, 1)) else (65533, 1) := by
  have hsz : (s.extract i s.size).size = s.size - i := by rw [ByteArray.size_extract]; omega
  have e1 : (0 + 1 < s.size - i) = (i + 2 ≤ s.size) := by apply propext; omega
  have e2 : (0 + 2 < s.size - i) = (i + 3 ≤ s.size) := by apply propext; omega
  have e3 : (0 + 3 < s.size - i) = (i + 4 ≤ s.size) := by apply propext; omega
  unfold Utf8.decode
  simp only [Utf8.runeError, hsz, dec_any _ (Nat.le_of_lt hi), e1, e2, e3, Bool.and_eq_true, beq_iff_eq, decide_eq_true_eq, ge_iff_le]
  rfl
theorem ext_ext {m : Nat} (h : i + m ≤ s.size) : (s.extract i s.size).extract 0 m = s.extract i (i + m) := by
  apply ByteArray.ext
  have e : ∀ (b : ByteArray) (x y : Nat), (b.extract x y).data = b.data.extract x y := fun b x y => by simp
  rw [e, e, e, Array.extract_extract]
  have h2 : s.data.size = s.size := rfl
  congr 1
  omega
theorem pre_at {p : ByteArray} (hi : i ≤ s.size) (h : i + p.size ≤ s.size) (he : s.extract i (i + p.size) = p) : pre (s.extract i s.size) p = true := dec_t ⟨by rw [ByteArray.size_extract]; omega, by rw [ext_ext h]; exact he⟩
theorem nxt_of {n : Nat} (hi : i < s.size) (h : isR s i n) (hd : Utf8.decode (s.extract i s.size) 0 = (cnd s i n, n)) : nxt s i = ((cnd s i n : Int), n, true) := by
  obtain ⟨hn, hv, he⟩ := h
  have hs := congrArg ByteArray.size he
  rw [ByteArray.size_extract] at hs
  unfold nxt
  rw [hd]
  dsimp only
  rw [if_neg]
  · rw [hs, show min (i + n) s.size - i = n by omega]
  · rintro ⟨h1, h2⟩
    rw [h1] at he
    have h3 : Utf8.encode ((65533 : Nat) : Int) = fffd := rfl
    rw [h3] at he
    have h4 : fffd.size = 3 := rfl
    rw [h1] at hs
    have h5 : (Utf8.encode ((65533 : Nat) : Int)).size = 3 := rfl
    rw [h5] at hs
    have h6 : n = 3 := by omega
    subst h6
    rw [pre_at (p := fffd) (Nat.le_of_lt hi) (by rw [h4]; exact hn) (by rw [h4]; exact he.symm)] at h2
    cases h2
theorem nxt_yes {n : Nat} (hi : i < s.size) (h1 : 1 ≤ n) (h4 : n ≤ 4) (h : isR s i n) : nxt s i = ((cnd s i n : Int), n, true) := by
  have hn := h.1
  refine nxt_of hi h ?_
  rw [decode_is hi]
  rcases (by omega : n = 1 ∨ n = 2 ∨ n = 3 ∨ n = 4) with rfl | rfl | rfl | rfl
  · rw [if_pos ((isR1 hn).1 h)]; rfl
  · obtain ⟨⟨a, b⟩, c⟩ := (isR2 hn).1 h
    rw [if_neg (by omega), if_pos ⟨a, hn, b⟩, if_pos c]
  · obtain ⟨⟨⟨a, b⟩, b2⟩, c⟩ := (isR3 hn).1 h
    rw [if_neg (by omega), if_neg (by omega), if_pos ⟨⟨a, by omega, b⟩, hn, b2⟩, if_pos c]
  · obtain ⟨⟨⟨⟨a, b⟩, b2⟩, b3⟩, c⟩ := (isR4 hn).1 h
    rw [if_neg (by omega), if_neg (by omega), if_neg (by omega), if_pos ⟨⟨⟨a, by omega, b⟩, by omega, b2⟩, hn, b3⟩, if_pos c]
theorem nxt_no (hi : i < s.size) (h : ∀ n, 1 ≤ n → n ≤ 4 → ¬ isR s i n) : nxt s i = (0, 1, false) := by
  have hd : Utf8.decode (s.extract i s.size) 0 = (65533, 1) := by
    rw [decode_is hi]
    rw [if_neg (fun h1 => h 1 (by omega) (by omega) ((isR1 hi).2 h1))]
    split
    · rename_i h2
      rw [if_neg (fun h3 => h 2 (by omega) (by omega) ((isR2 h2.2.1).2 ⟨⟨h2.1, h2.2.2⟩, h3⟩))]
    · split
      · rename_i h2
        rw [if_neg (fun h3 => h 3 (by omega) (by omega) ((isR3 h2.2.1).2 ⟨⟨⟨h2.1.1, h2.1.2.2⟩, h2.2.2⟩, h3⟩))]
      · split
        · rename_i h2
          rw [if_neg (fun h3 => h 4 (by omega) (by omega) ((isR4 h2.2.1).2 ⟨⟨⟨⟨h2.1.1.1, h2.1.1.2.2⟩, h2.1.2.2⟩, h2.2.2⟩, h3⟩))]
        · rfl
  unfold nxt
  rw [hd]
  refine if_pos ⟨rfl, ?_⟩
  cases hp : pre (s.extract i s.size) fffd
  · rfl
  · obtain ⟨h1, h2⟩ := of_dec hp
    have h4 : fffd.size = 3 := rfl
    rw [h4, ByteArray.size_extract] at h1
    have hn : i + 3 ≤ s.size := by omega
    rw [h4, ext_ext hn] at h2
    have h5 := (ext_list hn [239, 191, 189] rfl).1 h2.symm
    have k0 : 239 = bt s i 0 := h5 0 (by omega)
    have k1 : 191 = bt s i 1 := h5 1 (by omega)
    have k2 : 189 = bt s i 2 := h5 2 (by omega)
    have hc : cnd s i 3 = bt s i 0 % 16 * 4096 + bt s i 1 % 64 * 64 + bt s i 2 % 64 := rfl
    rw [← k0, ← k1, ← k2] at hc
    exact absurd ((isR3 hn).2 ⟨⟨⟨by omega, by omega⟩, by omega⟩, by omega, by rw [hc]; rfl⟩) (h 3 (by omega) (by omega))
end
end Go.Proofs.YtgdemplcpcacaaaFx

/-! Slices cut. -/
namespace Go.Proofs.YtgdemplcpcacaaaFx
open Go Go.RowKit
def cutA (A : Option Addr) (l m s : Nat) : Option Addr := if m = l then A else A.map (·.add (l * s))
theorem add_zero' (a : Addr) : a.add 0 = a := by simp [Addr.add]
theorem elem_is {P : Program} {t e : TypeId} (ht : P.underlying t = some (.slice e)) : P.elem t = e := by simp [Program.elem, ht]
section
variable {α : Type} {d : Kn α} {f : Fk α} {w W0 : World} {A : Option Addr} {xs : List α} {lo c e m : Nat} {L L' : List Ch}
theorem Rd.cut (h : Rd d w A xs) (hl : lo ≤ xs.length) (hc : xs.length ≤ c) : Rd d w (cutA A lo c d.sz) (xs.drop lo) := by
  unfold cutA
  split
  · rw [List.drop_of_length_le (by omega)]
    exact Rd.nil _ _ _
  · rename_i hne
    refine ⟨fun hp => ?_, fun j x hx => ?_⟩
    · rw [List.length_drop] at hp
      rw [h.ad (by omega)]
      rfl
    · rw [List.getElem?_drop] at hx
      have hA := h.ad (by have := (List.getElem?_eq_some_iff.1 hx).1; omega)
      obtain ⟨cs, h1, h2⟩ := h.el _ _ hx
      refine ⟨cs, h1, fun i u hu => ?_⟩
      have := h2 i u hu
      rw [hA]
      show w.cell? (((adr A).add (lo * d.sz)).add _) = _
      rw [add_add, ← Nat.add_assoc, ← Nat.add_mul]
      exact this
/-- The head of a row of the call's own. -/
theorem Holds.rcut (H : Holds W0 L w) (U : Upd L (Row f e (.slice A m c) xs) (Row f e (.slice A lo c) (xs.take lo)) L') (hl : lo ≤ xs.length) : Holds W0 L' w :=
  H.imp U fun S ⟨h1, h2⟩ => by
    have e1 : (xs.take lo).length = lo := by rw [List.length_take]; omega
    have hfl := flat_len f xs
    have hle : lo * f.sz ≤ xs.length * f.sz := Nat.mul_le_mul_right _ hl
    have e2 : (xs.take lo).flatMap f.enc = (xs.flatMap f.enc).take (lo * f.sz) := by
      have h3 : xs.flatMap f.enc = (xs.take lo).flatMap f.enc ++ (xs.drop lo).flatMap f.enc := by rw [← List.flatMap_append, List.take_append_drop]
      have h4 := flat_len f (xs.take lo)
      rw [e1] at h4
      rw [h3, ← h4, List.take_left']
      rfl
    refine ⟨fun k hk => h1 k (by cases A <;> exact hk), by rw [flat_len], ?_⟩
    rw [e1]
    rcases h2.2 with ⟨hv, hz⟩ | ⟨g, cap, cur, hv, hg, hh, hn, hcm, hsz, hcur⟩
    · injection hv with a1 a2 a3
      subst a1 a2 a3
      exact .inl ⟨by rw [show lo = 0 by omega], by omega⟩
    · injection hv with a1 a2 a3
      subst a1 a2 a3
      refine .inr ⟨g, c, cur, rfl, hg, hh, by omega, hcm, hsz, ?_⟩
      rw [e2, ← hcur, List.take_take, Nat.min_eq_left hle]
end
section
variable {P : Program} {n : Nat} {Q : Post} {l : Fr} {w : World} {d : Nat} {x y z : Operand} {ty t e : TypeId} {pos : String} {af : Array Edge} {A : Option Addr} {m c sz : Nat} {k k2 : IntKind} {lo hi : Int}
theorem v_cutlo (ht : P.underlying t = some (.slice e)) (hsz : ∀ W, (sizeOf e).run P W = .ok sz W) (hx : ev l x = some (.slice A m c)) (hy : ev l y = some (.int k lo)) (h0 : 0 ≤ lo) (h1 : lo ≤ m) :
    Vs P n l ⟨some d, .slice t x (some y) none none, ty, pos, af, none⟩ w (.slice (cutA A lo.toNat c sz) (m - lo.toNat) (c - lo.toNat)) := fun a ha => by
  have ht' : P.underlying t = some (.slice (P.elem t)) := by rw [elem_is ht]; exact ht
  have h := run_slice_l (P := P) w t A m c ht' k lo h0 h1
  rw [elem_is ht, hsz] at h
  simp [execOp, ha.eval hx, ha.eval hy, run_sliceAt_slice w t _ _ _ _ ht', h, sliced, cutA]
theorem v_cuthi (ht : P.underlying t = some (.slice e)) (hsz : ∀ W, (sizeOf e).run P W = .ok sz W) (hx : ev l x = some (.slice A m c)) (hy : ev l y = some (.int k hi)) (h0 : 0 ≤ hi) (h1 : hi ≤ c) :
    Vs P n l ⟨some d, .slice t x none (some y) none, ty, pos, af, none⟩ w (.slice A hi.toNat c) := fun a ha => by
  have ht' : P.underlying t = some (.slice (P.elem t)) := by rw [elem_is ht]; exact ht
  have h := run_slice_h (P := P) w t A m c ht' k hi h0 h1
  rw [elem_is ht, hsz] at h
  have e1 : (fun x : Addr => x.add 0) = id := funext fun a => add_zero' a
  simp [execOp, ha.eval hx, ha.eval hy, run_sliceAt_slice w t _ _ _ _ ht', h, sliced, e1]
end
end Go.Proofs.YtgdemplcpcacaaaFx

/-! Numbers, seven bits a byte: plain; bit operations and divisions. -/
namespace Go.Proofs.YtgdemplcpcacaaaFx
open Go Go.RowKit
section
variable {P : Program} {n : Nat} {l : Fr} {w : World} {x y : Operand} {ty t t2 : TypeId} {pos : String} {af : Array Edge} {gd : Option (Nat × Bool)} {dst : Option Tmp} {i j : Int} {k : IntKind}
theorem v_and (hx : ev l x = some (.int k i)) (hy : ev l y = some (.int k j)) : Vs P n l ⟨dst, .binOp .and t x y t2, ty, pos, af, gd⟩ w (.int k (bits .and k i j)) := fun a ha => by simp [execOp, ha.eval hx, ha.eval hy, eqGuard_at_int, binOp_and, intBits_and]
theorem v_or (hx : ev l x = some (.int k i)) (hy : ev l y = some (.int k j)) : Vs P n l ⟨dst, .binOp .or t x y t2, ty, pos, af, gd⟩ w (.int k (bits .or k i j)) := fun a ha => by simp [execOp, ha.eval hx, ha.eval hy, eqGuard_at_int, binOp_or, intBits_or]
theorem v_rem (hx : ev l x = some (.int k i)) (hy : ev l y = some (.int k j)) (h0 : j ≠ 0) : Vs P n l ⟨dst, .binOp .rem t x y t2, ty, pos, af, gd⟩ w (.int k (Int.tmod i j)) := fun a ha => by
  simp [execOp, ha.eval hx, ha.eval hy, eqGuard_at_int, binOp_rem, Op.intDiv, h0]
theorem v_quo (hx : ev l x = some (.int k i)) (hy : ev l y = some (.int k j)) (h0 : j ≠ 0) : Vs P n l ⟨dst, .binOp .quo t x y t2, ty, pos, af, gd⟩ w (.int k (k.wrap (Int.tdiv i j))) := fun a ha => by
  simp [execOp, ha.eval hx, ha.eval hy, eqGuard_at_int, binOp_quo, Op.intDiv, h0]
end
theorem or128 {a : Int} (h : 0 ≤ a ∧ a < 256) : bits .or .u8 a 128 = a % 128 + 128 := by
  obtain ⟨n, rfl⟩ := Int.eq_ofNat_of_zero_le h.1
  have hn : n < 256 := by omega
  have h1 := (bits_nat .u8 8 (by decide) wraps_u8 n 128 (by simpa using hn) (by decide)).2
  have h2 : ∀ n : Fin 256, (n.1 ||| 128) = n.1 % 128 + 128 := by decide +kernel
  have h3 := h2 ⟨n, hn⟩
  dsimp only at h3
  rw [show (128 : Int) = ((128 : Nat) : Int) from rfl, h1, h3]
  omega
theorem and127 {a : Int} (h : 0 ≤ a ∧ a < 256) : bits .and .u8 a 127 = a % 128 := bits_mask .u8 8 (by decide) wraps_u8 7 (by decide) a h.1 (by have := h.2; omega)
theorem wraps_i64 (n : Int) (h₀ : 0 ≤ n) (h₁ : n < 2 ^ 62) : IntKind.i64.wrap n = n := by rw [IntKind.wrap_i64]; omega
theorem or_low {a c s : Nat} (ha : a < 2 ^ s) (hc : c * 2 ^ s < 2 ^ 62) (ha2 : a < 2 ^ 62) : bits .or .i64 (a : Int) ((c * 2 ^ s : Nat) : Int) = ((a + c * 2 ^ s : Nat) : Int) := by
  rw [(bits_nat .i64 62 (by decide) wraps_i64 a (c * 2 ^ s) ha2 hc).2, Nat.or_comm, Nat.mul_comm c, ← Nat.two_pow_add_eq_or_of_lt ha, Nat.add_comm]
/-- A number's bytes. -/
def vint (n : Nat) : List Int := if n < 128 then [(n : Int)] else ((n % 128 + 128 : Nat) : Int) :: vint (n / 128)
termination_by n
theorem vint_lt {n : Nat} (h : n < 128) : vint n = [(n : Int)] := by rw [vint, if_pos h]
theorem vint_ge {n : Nat} (h : ¬ n < 128) : vint n = ((n % 128 + 128 : Nat) : Int) :: vint (n / 128) := by rw [vint, if_neg h]
theorem vint_len : ∀ (k n : Nat), n < 128 ^ k → 1 ≤ k → (vint n).length ≤ k
  | 0, _, _, h => by omega
  | k + 1, n, h, _ => by
    rcases Nat.lt_or_ge n 128 with h1 | h1
    · rw [vint_lt h1]; simp
    · rw [vint_ge (by omega), List.length_cons]
      rcases Nat.eq_zero_or_pos k with rfl | hk
      · simp at h; omega
      · have := vint_len k (n / 128) (by rw [Nat.pow_succ] at h; exact Nat.div_lt_of_lt_mul (by rw [Nat.mul_comm]; exact h)) hk
        omega
theorem vint_pos (n : Nat) : 1 ≤ (vint n).length := by
  rcases Nat.lt_or_ge n 128 with h1 | h1
  · rw [vint_lt h1]; simp
  · rw [vint_ge (by omega), List.length_cons]; omega
theorem vint_bytes : ∀ (n : Nat), ∀ x ∈ vint n, 0 ≤ x ∧ x < 256 := by
  intro n
  induction n using Nat.strongRecOn with
  | _ n ih =>
    intro x hx
    rcases Nat.lt_or_ge n 128 with h1 | h1
    · rw [vint_lt h1, List.mem_singleton] at hx; omega
    · rw [vint_ge (by omega)] at hx
      rcases List.mem_cons.1 hx with rfl | hx
      · omega
      · exact ih (n / 128) (by omega) x hx
/-- A number read: at most k bytes are left, acc is what was read, sh its bits. -/
def numG : Nat → Nat → Nat → List Int → Option (Nat × List Int)
  | 0, _, _, _ => none
  | _ + 1, _, _, [] => none
  | k + 1, acc, sh, c :: r =>
    if c < 128 then if (c = 0 ∧ 0 < sh) ∨ 2147483647 < acc + (c.toNat % 128) * 2 ^ sh then none else some (acc + (c.toNat % 128) * 2 ^ sh, r)
    else numG k (acc + (c.toNat % 128) * 2 ^ sh) (sh + 7) r
def num (bs : List Int) : Option (Nat × List Int) := numG 5 0 0 bs
def Bytes (bs : List Int) : Prop := ∀ x ∈ bs, 0 ≤ x ∧ x < 256
theorem numG_big : ∀ (k acc sh : Nat) (bs : List Int), 2147483647 < acc → numG k acc sh bs = none
  | 0, _, _, _, _ => rfl
  | _ + 1, _, _, [], _ => rfl
  | k + 1, acc, sh, c :: r, h => by
    unfold numG
    split
    · rw [if_pos (.inr (by omega))]
    · exact numG_big k _ _ r (by omega)
theorem numG_vint : ∀ (k acc sh m : Nat) (r : List Int), m < 128 ^ k → 1 ≤ k → acc + m * 2 ^ sh ≤ 2147483647 → (m ≠ 0 ∨ sh = 0) → numG k acc sh (vint m ++ r) = some (acc + m * 2 ^ sh, r)
  | 0, acc, sh, m, r, h, h0, h2, h3 => by omega
  | k + 1, acc, sh, m, r, h, h0, h2, h3 => by
    have hdiv : m / 128 < 128 ^ k := by rw [Nat.pow_succ] at h; exact Nat.div_lt_of_lt_mul (by rw [Nat.mul_comm]; exact h)
    rcases Nat.lt_or_ge m 128 with h1 | h1
    · rw [vint_lt h1]
      show numG (k + 1) acc sh ((m : Int) :: r) = _
      unfold numG
      rw [if_pos (by omega), Int.toNat_natCast, Nat.mod_eq_of_lt h1, if_neg (by omega)]
    · rw [vint_ge (by omega)]
      show numG (k + 1) acc sh (((m % 128 + 128 : Nat) : Int) :: (vint (m / 128) ++ r)) = _
      have e1 : (m % 128 + 128) % 128 = m % 128 := by omega
      have e2 : acc + m % 128 * 2 ^ sh + m / 128 * 2 ^ (sh + 7) = acc + m * 2 ^ sh := by
        have h5 : m / 128 * 2 ^ (sh + 7) = (m / 128 * 128) * 2 ^ sh := by rw [Nat.pow_add, Nat.mul_comm (2 ^ sh), ← Nat.mul_assoc]
        have h6 : m % 128 + m / 128 * 128 = m := Nat.mod_add_div' m 128
        rw [h5, Nat.add_assoc, ← Nat.add_mul, h6]
      unfold numG
      rw [if_neg (by omega), Int.toNat_natCast, e1]
      have := numG_vint k (acc + m % 128 * 2 ^ sh) (sh + 7) (m / 128) r hdiv (by
        rcases Nat.eq_zero_or_pos k with rfl | hk
        · simp at h; omega
        · exact hk) (by rw [e2]; exact h2) (.inl (by omega))
      rw [this, e2]
theorem numG_is : ∀ (k acc sh n : Nat) (bs r : List Int), Bytes bs → numG k acc sh bs = some (n, r) → ∃ m, bs = vint m ++ r ∧ n = acc + m * 2 ^ sh ∧ n ≤ 2147483647 ∧ (m ≠ 0 ∨ sh = 0)
  | 0, _, _, _, _, _, _, h => by simp [numG] at h
  | _ + 1, _, _, _, [], _, _, h => by simp [numG] at h
  | k + 1, acc, sh, n, c :: r0, r, hB, h => by
    have hc := hB c (List.mem_cons_self ..)
    unfold numG at h
    split at h
    · rename_i h1
      split at h
      · cases h
      · rename_i h2
        injection h with h
        injection h with h3 h4
        subst h4
        have e : c.toNat % 128 = c.toNat := by omega
        rw [e] at h2 h3
        refine ⟨c.toNat, ?_, h3.symm, by omega, by omega⟩
        rw [vint_lt (by omega)]
        show c :: r0 = (c.toNat : Int) :: r0
        rw [Int.toNat_of_nonneg hc.1]
    · rename_i h1
      obtain ⟨m, rfl, hn, hle, hm⟩ := numG_is k _ _ n r0 r (fun x hx => hB x (List.mem_cons_of_mem _ hx)) h
      have hm0 : m ≠ 0 := hm.resolve_right (by omega)
      have e0 : c.toNat % 128 = c.toNat - 128 := by omega
      refine ⟨(c.toNat - 128) + 128 * m, ?_, ?_, hle, .inl (by omega)⟩
      · rw [vint_ge (n := (c.toNat - 128) + 128 * m) (by omega)]
        have e1 : ((c.toNat - 128) + 128 * m) % 128 + 128 = c.toNat := by omega
        have e2 : ((c.toNat - 128) + 128 * m) / 128 = m := by omega
        rw [e1, e2, Int.toNat_of_nonneg hc.1]
        rfl
      · rw [hn, e0, Nat.add_assoc]
        congr 1
        rw [Nat.add_mul, Nat.pow_add]
        congr 1
        rw [Nat.mul_comm 128 m, Nat.mul_assoc, Nat.mul_comm 128]
theorem num_vint {n : Nat} (r : List Int) (h : n ≤ 2147483647) : num (vint n ++ r) = some (n, r) := by
  have := numG_vint 5 0 0 n r (by simp only [Nat.reducePow]; omega) (by decide) (by simpa using h) (.inr rfl)
  simpa [num] using this
theorem num_is {n : Nat} {bs r : List Int} (hB : Bytes bs) (h : num bs = some (n, r)) : bs = vint n ++ r ∧ n ≤ 2147483647 := by
  obtain ⟨m, h1, h2, h3, _⟩ := numG_is 5 0 0 n bs r hB h
  rw [Nat.pow_zero, Nat.mul_one, Nat.zero_add] at h2
  subst h2
  exact ⟨h1, h3⟩
end Go.Proofs.YtgdemplcpcacaaaFx

/-! Numbers of 32 bits, as natural numbers. -/
namespace Go.Proofs.YtgdemplcpcacaaaFx
open Go Go.RowKit
theorem w32 {m : Nat} (h : m < 4294967296) : IntKind.u32.wrap (m : Int) = m := by rw [IntKind.wrap_u32']; omega
theorem w8 {m : Nat} (h : m < 256) : IntKind.u8.wrap (m : Int) = m := by rw [IntKind.wrap_u8']; omega
section
variable {P : Program} {n : Nat} {l : Fr} {w : World} {x y : Operand} {ty t t2 : TypeId} {pos : String} {af : Array Edge} {gd : Option (Nat × Bool)} {dst : Option Tmp} {a : Nat} {ds : TypeDesc}
theorem v_quoN (b : Nat) (hb : 0 < b) (ha : a < 4294967296) (hx : ev l x = some (.int .u32 (a : Int))) (hy : ev l y = some (.int .u32 (b : Int))) : Vs P n l ⟨dst, .binOp .quo t x y t2, ty, pos, af, gd⟩ w (.int .u32 ((a / b : Nat) : Int)) := by
  have h := v_quo (P := P) (n := n) (w := w) (ty := ty) (t := t) (t2 := t2) (pos := pos) (af := af) (gd := gd) (dst := dst) hx hy (by omega)
  have e : Int.tdiv (a : Int) (b : Int) = ((a / b : Nat) : Int) := by rw [Int.tdiv_eq_ediv_of_nonneg (by omega)]; rfl
  rwa [e, w32 (Nat.lt_of_le_of_lt (Nat.div_le_self _ _) ha)] at h
theorem v_remN (b : Nat) (hb : 0 < b) (hx : ev l x = some (.int .u32 (a : Int))) (hy : ev l y = some (.int .u32 (b : Int))) : Vs P n l ⟨dst, .binOp .rem t x y t2, ty, pos, af, gd⟩ w (.int .u32 ((a % b : Nat) : Int)) := by
  have h := v_rem (P := P) (n := n) (w := w) (ty := ty) (t := t) (t2 := t2) (pos := pos) (af := af) (gd := gd) (dst := dst) hx hy (by omega)
  have e : Int.tmod (a : Int) (b : Int) = ((a % b : Nat) : Int) := by rw [Int.tmod_eq_emod_of_nonneg (by omega)]; rfl
  rwa [e] at h
theorem v_addN (b : Nat) (hab : a + b < 4294967296) (hx : ev l x = some (.int .u32 (a : Int))) (hy : ev l y = some (.int .u32 (b : Int))) : Vs P n l ⟨dst, .binOp .add t x y t2, ty, pos, af, gd⟩ w (.int .u32 ((a + b : Nat) : Int)) := by
  have h := v_add (P := P) (n := n) (w := w) (ty := ty) (t := t) (t2 := t2) (pos := pos) (af := af) (gd := gd) (dst := dst) hx hy
  rwa [show (a : Int) + (b : Int) = ((a + b : Nat) : Int) from rfl, w32 hab] at h
theorem v_mulN (b : Nat) (hab : a * b < 4294967296) (hx : ev l x = some (.int .u32 (a : Int))) (hy : ev l y = some (.int .u32 (b : Int))) : Vs P n l ⟨dst, .binOp .mul t x y t2, ty, pos, af, gd⟩ w (.int .u32 ((a * b : Nat) : Int)) := by
  have h := v_mul (P := P) (n := n) (w := w) (ty := ty) (t := t) (t2 := t2) (pos := pos) (af := af) (gd := gd) (dst := dst) hx hy
  rwa [show (a : Int) * (b : Int) = ((a * b : Nat) : Int) from rfl, w32 hab] at h
/-- From any kind: a number that fits. -/
theorem v_to32 {k : IntKind} (ha : a < 4294967296) (hs : P.underlying t = some ds) (hd : P.underlying t2 = some (.int .u32)) (hx : ev l x = some (.int k (a : Int))) : Vs P n l ⟨dst, .convert t t2 x, ty, pos, af, gd⟩ w (.int .u32 (a : Int)) := by
  have h := v_conv (P := P) (n := n) (w := w) (ty := ty) (pos := pos) (af := af) (gd := gd) (dst := dst) hs hd hx
  rwa [w32 ha] at h
theorem v_to8 {k : IntKind} (ha : a < 256) (hs : P.underlying t = some ds) (hd : P.underlying t2 = some (.int .u8)) (hx : ev l x = some (.int k (a : Int))) : Vs P n l ⟨dst, .convert t t2 x, ty, pos, af, gd⟩ w (.int .u8 ((UInt8.ofNat a).toNat : Int)) := by
  have h := v_conv (P := P) (n := n) (w := w) (ty := ty) (pos := pos) (af := af) (gd := gd) (dst := dst) hs hd hx
  rw [w8 ha] at h
  rwa [of_toNat ha]
theorem v_toI32 {k : IntKind} (ha : a < 2147483648) (hs : P.underlying t = some ds) (hd : P.underlying t2 = some (.int .i32)) (hx : ev l x = some (.int k (a : Int))) : Vs P n l ⟨dst, .convert t t2 x, ty, pos, af, gd⟩ w (.int .i32 (a : Int)) := by
  have h := v_conv (P := P) (n := n) (w := w) (ty := ty) (pos := pos) (af := af) (gd := gd) (dst := dst) hs hd hx
  have e : IntKind.i32.wrap (a : Int) = a := by
    simp only [IntKind.wrap, IntKind.bits, IntKind.signed]
    simp
    omega
  rwa [e] at h
end
theorem valid_dec (r : Int) : Utf8.valid r = dec ((0 ≤ r ∧ r < 55296) ∨ (57343 < r ∧ r ≤ 1114111)) := dec_eq (valid_iff r)
/-- A rune's bytes. -/
def encL (c : Nat) : List UInt8 := if c < 128 then [UInt8.ofNat c] else if c < 2048 then [UInt8.ofNat (192 + c / 64), UInt8.ofNat (128 + c % 64)] else if c < 65536 then [UInt8.ofNat (224 + c / 4096), UInt8.ofNat (128 + c / 64 % 64), UInt8.ofNat (128 + c % 64)] else [UInt8.ofNat (240 + c / 262144), UInt8.ofNat (128 + c / 4096 % 64), UInt8.ofNat (128 + c / 64 % 64), UInt8.ofNat (128 + c % 64)]
end Go.Proofs.YtgdemplcpcacaaaFx
