/- An action's parts counted. Texts that have come up: a map's marks. -/
import Derived.Test.YtkpehkadammppaaProg
import Derived.Test.YtkpehkadammppaaK02
import Derived.Test.YtkpehkadammppaaK03
set_option linter.unusedVariables false
set_option linter.unusedSimpArgs false
/-! An action's parts counted. -/
namespace Go.Proofs.Ytkpehkadammppaa.PartsW
open Go Go.RowKit Go.Proofs.YtkpehkadammppaaFx 
theorem agg128 : Agg Try.prog 128 4 := agg_of Try.underlying128 (by kernel_rfl)
theorem en76 : Enters Try.prog 76 := enters Try.func76 (by kernel_rfl) rfl
theorem en78 : Enters Try.prog 78 := enters Try.func78 (by kernel_rfl) rfl
theorem fa128_0 : FieldAt Try.prog 128 0 0 := field_at (sz := 0) Try.underlying128 rfl (by kernel_rfl) rfl
theorem fa128_1 : FieldAt Try.prog 128 1 1 := field_at (sz := 0) Try.underlying128 rfl (by kernel_rfl) rfl
theorem fa128_2 : FieldAt Try.prog 128 2 2 := field_at (sz := 0) Try.underlying128 rfl (by kernel_rfl) rfl
theorem fa128_3 : FieldAt Try.prog 128 3 3 := field_at (sz := 0) Try.underlying128 rfl (by kernel_rfl) rfl
theorem one126 : One Try.prog 126 := one_of Try.underlying126 rfl (by kernel_rfl)
theorem one3 : One Try.prog 3 := one_of Try.underlying3 rfl (by kernel_rfl)
theorem one9 : One Try.prog 9 := one_of Try.underlying9 rfl (by kernel_rfl)
theorem sz128 : ∀ W, (sizeOf 128).run Try.prog W = .ok 4 W := size_of (by kernel_rfl)
theorem sz3 : ∀ W, (sizeOf 3).run Try.prog W = .ok 1 W := size_of (by kernel_rfl)
theorem zv128 : ∀ W, (zeroValue 128).run Try.prog W = .ok (.agg #[.int .i64 0, .int .i64 0, .string ⟨#[]⟩, .slice none 0 0]) W := zero_of (by kernel_rfl)

def PartsOk (t : Ac) : Prop := ∀ (w0 w : World) (L : List Ch) (B : Option Addr) (b k : Nat) (n syms : Int) (hk : t.kids.length ≤ k) (hr : Rd (kTr fAc) w0 B t.kids) (hn : 0 ≤ n ∧ n + t.cnt ≤ 4611686018427387904) (HH : Holds w0 (Blk b 3 [.int .i64 n] :: L) w), Calls Try.prog 76 #[.agg #[.int .i64 t.x.kind, .int .i64 t.x.at_, .string t.x.name, .slice B t.kids.length k], .int .i64 syms, .pointer (some ⟨b, 0, none⟩)] w fun e w' => ∃ v, e = .returned v ∧ ∃ m, v = .bool (dec (t.All (nodeOk syms) ∧ n + t.cnt ≤ 256)) ∧ (((t.All (nodeOk syms) ∧ n + t.cnt ≤ 256) → m = n + t.cnt) ∧ n ≤ m ∧ m ≤ n + t.cnt) ∧ Holds w0 (Blk b 3 [.int .i64 m] :: L) w'

set_option maxHeartbeats 3200000 in
set_option maxRecDepth 100000 in
theorem parts_step {w0 w : World} {L : List Ch} {B : Option Addr} {b k : Nat} {n syms : Int} {t : Ac} (hk : t.kids.length ≤ k) (hr : Rd (kTr fAc) w0 B t.kids) (hn : 0 ≤ n ∧ n + t.cnt ≤ 4611686018427387904) (HH : Holds w0 (Blk b 3 [.int .i64 n] :: L) w) (ih : ∀ t' ∈ t.kids, PartsOk t') : Calls Try.prog 76 #[.agg #[.int .i64 t.x.kind, .int .i64 t.x.at_, .string t.x.name, .slice B t.kids.length k], .int .i64 syms, .pointer (some ⟨b, 0, none⟩)] w fun e w' => ∃ v, e = .returned v ∧ ∃ m, v = .bool (dec (t.All (nodeOk syms) ∧ n + t.cnt ≤ 256)) ∧ (((t.All (nodeOk syms) ∧ n + t.cnt ≤ 256) → m = n + t.cnt) ∧ n ≤ m ∧ m ≤ n + t.cnt) ∧ Holds w0 (Blk b 3 [.int .i64 m] :: L) w' := by
  have hcnt := Tr.cnt_eq t
  have hkl := Tr.cnts_len t.kids
  refine calls_of Try.func76 rfl Try.ntmps76 rfl ?_
  have H := HH
  refine wc_seq ?_
  refine wc_region ?_
  refine wl_box (cs := [_, _, _, _]) H rfl rfl rfl ?_
  intro b3 w1 hb3 H2
  refine wl_v rfl rfl rfl (v_assign rfl) ?_
  refine wl_nil ?_
  refine wc_seq ?_
  refine wc_region ?_
  refine wl_v rfl rfl rfl (v_move rfl) ?_
  refine wl_v rfl rfl rfl (v_nil rfl) ?_
  refine wl_v rfl rfl rfl (v_load one3 rfl (H2.at (by repeat constructor) rfl)) ?_
  refine wl_v rfl rfl rfl (v_addi rfl rfl (by omega)) ?_
  refine wl_v rfl rfl rfl (v_nil rfl) ?_
  refine wl_store (vs := [_]) H2 (by repeat constructor) sz3 rfl rfl rfl rfl rfl (by (repeat constructor)) ?_
  intro w3 H4 hw3
  refine wl_nil ?_
  refine wc_seq ?_
  refine wc_region ?_
  refine wl_v rfl rfl rfl (v_fb (o2 := 3) fa128_3 rfl rfl) ?_
  refine wl_v rfl rfl rfl (v_load one126 rfl (H4.at (by repeat constructor) rfl)) ?_
  refine wl_v rfl rfl rfl (v_len Try.underlying126 rfl) ?_
  refine wl_v rfl rfl rfl (v_eql rfl rfl) ?_
  refine wl_v rfl rfl rfl (v_assign rfl) ?_
  refine wl_nil ?_
  refine wc_seq ?_
  refine wc_region ?_
  refine wl_v rfl rfl rfl (v_assign rfl) ?_
  refine wl_nil ?_
  refine wc_cut (σ := Bool) (fun q => [(1, .int .i64 syms), (2, .pointer (some ⟨b, 0, none⟩)), (3, .pointer (some ⟨b3, 0, none⟩)), (8, .bool q)]) (fun q W => q = dec (nodeOk syms t.x t.kids.length) ∧ Holds w0 (Blk b 3 [.int .i64 (n + 1)] :: Blk b3 128 [.int .i64 t.x.kind, .int .i64 t.x.at_, .string t.x.name, .slice B t.kids.length k] :: L) W) ?_ ?_
  ·refine wc_seq ?_
   refine wc_region ?_
   refine wl_v rfl rfl rfl (v_fb (o2 := 0) fa128_0 rfl rfl) ?_
   refine wl_v rfl rfl rfl (v_load one3 rfl (H4.at (by repeat constructor) rfl)) ?_
   refine wl_nil ?_
   refine wc_block ?_
   refine wc_seq ?_
   refine wc_region ?_
   refine wl_v rfl rfl rfl (v_eql rfl rfl) ?_
   refine wl_v rfl rfl rfl (v_assign rfl) ?_
   refine wl_nil ?_
   refine wc_cond rfl (fun c0 => ?_) (fun c0 => ?_)
   ·have c0p := of_decide_eq_true c0
    refine wc_region ?_
    refine wl_v rfl rfl rfl (v_move rfl) ?_
    refine wl_v rfl rfl rfl (v_move rfl) ?_
    refine wl_guard rfl rfl rfl (fun g25 => ?_) (fun g25 => ?_)
    ·have g25p := of_decide_eq_true g25
     refine wl_v rfl rfl rfl (v_fb (o2 := 1) fa128_1 rfl rfl) ?_
     refine wl_on' rfl rfl g25 ?_
     refine wl_v rfl rfl rfl (v_load one3 rfl (H4.at (by repeat constructor) rfl)) ?_
     refine wl_on' rfl rfl g25 ?_
     refine wl_v rfl rfl rfl (v_eql rfl rfl) ?_
     refine wl_v rfl rfl rfl (v_pick_t rfl g25 rfl) ?_
     refine wl_v rfl rfl rfl (v_move rfl) ?_
     refine wl_guard rfl rfl rfl (fun g30 => ?_) (fun g30 => ?_)
     ·have g30p := of_decide_eq_true g30
      refine wl_v rfl rfl rfl (v_fb (o2 := 2) fa128_2 rfl rfl) ?_
      refine wl_on' rfl rfl g30 ?_
      refine wl_v rfl rfl rfl (v_load one9 rfl (H4.at (by repeat constructor) rfl)) ?_
      refine wl_on' rfl rfl g30 ?_
      refine wl_v rfl rfl rfl (v_eql0 rfl rfl) ?_
      refine wl_v rfl rfl rfl (v_pick_t rfl g30 rfl) ?_
      refine wl_v rfl rfl rfl (v_assign rfl) ?_
      refine wl_nil ?_
      first
        | exact ⟨_, (sc rfl (sc rfl (sc rfl (sc rfl (sn _))))), ⟨dec_eq ⟨fun hd => by (have h_ := of_decide_eq_true hd; unfold nodeOk; omega), fun hh => decide_eq_true (by unfold nodeOk at hh; omega)⟩, H4.turn (by repeat constructor)⟩⟩
        | exact ⟨_, (sc rfl (sc rfl (sc rfl (sc rfl (sn _))))), ⟨(dec_f fun hh => by unfold nodeOk at hh; omega).symm, H4.turn (by repeat constructor)⟩⟩
     ·have g30p := of_decide_eq_false g30
      refine wl_off rfl rfl g30 rfl ?_
      refine wl_off rfl rfl g30 rfl ?_
      refine wl_v rfl rfl rfl (v_pick_f rfl g30 rfl) ?_
      refine wl_v rfl rfl rfl (v_assign rfl) ?_
      refine wl_nil ?_
      first
        | exact ⟨_, (sc rfl (sc rfl (sc rfl (sc rfl (sn _))))), ⟨dec_eq ⟨fun hd => by (have h_ := of_decide_eq_true hd; unfold nodeOk; omega), fun hh => decide_eq_true (by unfold nodeOk at hh; omega)⟩, H4.turn (by repeat constructor)⟩⟩
        | exact ⟨_, (sc rfl (sc rfl (sc rfl (sc rfl (sn _))))), ⟨(dec_f fun hh => by unfold nodeOk at hh; omega).symm, H4.turn (by repeat constructor)⟩⟩
    ·have g25p := of_decide_eq_false g25
     refine wl_off rfl rfl g25 rfl ?_
     refine wl_off rfl rfl g25 rfl ?_
     refine wl_v rfl rfl rfl (v_pick_f rfl g25 rfl) ?_
     refine wl_v rfl rfl rfl (v_move rfl) ?_
     refine wl_off rfl rfl rfl rfl ?_
     refine wl_off rfl rfl rfl rfl ?_
     refine wl_off rfl rfl rfl rfl ?_
     refine wl_v rfl rfl rfl (v_pick_f rfl rfl rfl) ?_
     refine wl_v rfl rfl rfl (v_assign rfl) ?_
     refine wl_nil ?_
     first
       | exact ⟨_, (sc rfl (sc rfl (sc rfl (sc rfl (sn _))))), ⟨dec_eq ⟨fun hd => by (have h_ := of_decide_eq_true hd; unfold nodeOk; omega), fun hh => decide_eq_true (by unfold nodeOk at hh; omega)⟩, H4.turn (by repeat constructor)⟩⟩
       | exact ⟨_, (sc rfl (sc rfl (sc rfl (sc rfl (sn _))))), ⟨(dec_f fun hh => by unfold nodeOk at hh; omega).symm, H4.turn (by repeat constructor)⟩⟩
   ·have c0p := of_decide_eq_false c0
    refine wc_seq ?_
    refine wc_region ?_
    refine wl_v rfl rfl rfl (v_eql rfl rfl) ?_
    refine wl_v rfl rfl rfl (v_assign rfl) ?_
    refine wl_nil ?_
    refine wc_cond rfl (fun c1 => ?_) (fun c1 => ?_)
    ·have c1p := of_decide_eq_true c1
     refine wc_region ?_
     refine wl_v rfl rfl rfl (v_move rfl) ?_
     refine wl_v rfl rfl rfl (v_move rfl) ?_
     refine wl_guard rfl rfl rfl (fun g38 => ?_) (fun g38 => ?_)
     ·have g38p := of_decide_eq_true g38
      refine wl_v rfl rfl rfl (v_fb (o2 := 1) fa128_1 rfl rfl) ?_
      refine wl_on' rfl rfl g38 ?_
      refine wl_v rfl rfl rfl (v_load one3 rfl (H4.at (by repeat constructor) rfl)) ?_
      refine wl_on' rfl rfl g38 ?_
      refine wl_v rfl rfl rfl (v_geq rfl rfl) ?_
      refine wl_v rfl rfl rfl (v_pick_t rfl g38 rfl) ?_
      refine wl_v rfl rfl rfl (v_move rfl) ?_
      refine wl_guard rfl rfl rfl (fun g43 => ?_) (fun g43 => ?_)
      ·have g43p := of_decide_eq_true g43
       refine wl_v rfl rfl rfl (v_fb (o2 := 1) fa128_1 rfl rfl) ?_
       refine wl_on' rfl rfl g43 ?_
       refine wl_v rfl rfl rfl (v_load one3 rfl (H4.at (by repeat constructor) rfl)) ?_
       refine wl_on' rfl rfl g43 ?_
       refine wl_v rfl rfl rfl (v_move rfl) ?_
       refine wl_on' rfl rfl g43 ?_
       refine wl_v rfl rfl rfl (v_lss rfl rfl) ?_
       refine wl_v rfl rfl rfl (v_pick_t rfl g43 rfl) ?_
       refine wl_v rfl rfl rfl (v_move rfl) ?_
       refine wl_guard rfl rfl rfl (fun g49 => ?_) (fun g49 => ?_)
       ·have g49p := of_decide_eq_true g49
        refine wl_v rfl rfl rfl (v_fb (o2 := 2) fa128_2 rfl rfl) ?_
        refine wl_on' rfl rfl g49 ?_
        refine wl_v rfl rfl rfl (v_load one9 rfl (H4.at (by repeat constructor) rfl)) ?_
        refine wl_on' rfl rfl g49 ?_
        refine wl_v rfl rfl rfl (v_eql0 rfl rfl) ?_
        refine wl_v rfl rfl rfl (v_pick_t rfl g49 rfl) ?_
        refine wl_v rfl rfl rfl (v_assign rfl) ?_
        refine wl_nil ?_
        first
          | exact ⟨_, (sc rfl (sc rfl (sc rfl (sc rfl (sn _))))), ⟨dec_eq ⟨fun hd => by (have h_ := of_decide_eq_true hd; unfold nodeOk; omega), fun hh => decide_eq_true (by unfold nodeOk at hh; omega)⟩, H4.turn (by repeat constructor)⟩⟩
          | exact ⟨_, (sc rfl (sc rfl (sc rfl (sc rfl (sn _))))), ⟨(dec_f fun hh => by unfold nodeOk at hh; omega).symm, H4.turn (by repeat constructor)⟩⟩
       ·have g49p := of_decide_eq_false g49
        refine wl_off rfl rfl g49 rfl ?_
        refine wl_off rfl rfl g49 rfl ?_
        refine wl_v rfl rfl rfl (v_pick_f rfl g49 rfl) ?_
        refine wl_v rfl rfl rfl (v_assign rfl) ?_
        refine wl_nil ?_
        first
          | exact ⟨_, (sc rfl (sc rfl (sc rfl (sc rfl (sn _))))), ⟨dec_eq ⟨fun hd => by (have h_ := of_decide_eq_true hd; unfold nodeOk; omega), fun hh => decide_eq_true (by unfold nodeOk at hh; omega)⟩, H4.turn (by repeat constructor)⟩⟩
          | exact ⟨_, (sc rfl (sc rfl (sc rfl (sc rfl (sn _))))), ⟨(dec_f fun hh => by unfold nodeOk at hh; omega).symm, H4.turn (by repeat constructor)⟩⟩
      ·have g43p := of_decide_eq_false g43
       refine wl_off rfl rfl g43 rfl ?_
       refine wl_off rfl rfl g43 rfl ?_
       refine wl_off rfl rfl g43 rfl ?_
       refine wl_v rfl rfl rfl (v_pick_f rfl g43 rfl) ?_
       refine wl_v rfl rfl rfl (v_move rfl) ?_
       refine wl_off rfl rfl rfl rfl ?_
       refine wl_off rfl rfl rfl rfl ?_
       refine wl_off rfl rfl rfl rfl ?_
       refine wl_v rfl rfl rfl (v_pick_f rfl rfl rfl) ?_
       refine wl_v rfl rfl rfl (v_assign rfl) ?_
       refine wl_nil ?_
       first
         | exact ⟨_, (sc rfl (sc rfl (sc rfl (sc rfl (sn _))))), ⟨dec_eq ⟨fun hd => by (have h_ := of_decide_eq_true hd; unfold nodeOk; omega), fun hh => decide_eq_true (by unfold nodeOk at hh; omega)⟩, H4.turn (by repeat constructor)⟩⟩
         | exact ⟨_, (sc rfl (sc rfl (sc rfl (sc rfl (sn _))))), ⟨(dec_f fun hh => by unfold nodeOk at hh; omega).symm, H4.turn (by repeat constructor)⟩⟩
     ·have g38p := of_decide_eq_false g38
      refine wl_off rfl rfl g38 rfl ?_
      refine wl_off rfl rfl g38 rfl ?_
      refine wl_v rfl rfl rfl (v_pick_f rfl g38 rfl) ?_
      refine wl_v rfl rfl rfl (v_move rfl) ?_
      refine wl_off rfl rfl rfl rfl ?_
      refine wl_off rfl rfl rfl rfl ?_
      refine wl_off rfl rfl rfl rfl ?_
      refine wl_off rfl rfl rfl rfl ?_
      refine wl_v rfl rfl rfl (v_pick_f rfl rfl rfl) ?_
      refine wl_v rfl rfl rfl (v_move rfl) ?_
      refine wl_off rfl rfl rfl rfl ?_
      refine wl_off rfl rfl rfl rfl ?_
      refine wl_off rfl rfl rfl rfl ?_
      refine wl_v rfl rfl rfl (v_pick_f rfl rfl rfl) ?_
      refine wl_v rfl rfl rfl (v_assign rfl) ?_
      refine wl_nil ?_
      first
        | exact ⟨_, (sc rfl (sc rfl (sc rfl (sc rfl (sn _))))), ⟨dec_eq ⟨fun hd => by (have h_ := of_decide_eq_true hd; unfold nodeOk; omega), fun hh => decide_eq_true (by unfold nodeOk at hh; omega)⟩, H4.turn (by repeat constructor)⟩⟩
        | exact ⟨_, (sc rfl (sc rfl (sc rfl (sc rfl (sn _))))), ⟨(dec_f fun hh => by unfold nodeOk at hh; omega).symm, H4.turn (by repeat constructor)⟩⟩
    ·have c1p := of_decide_eq_false c1
     refine wc_seq ?_
     refine wc_region ?_
     refine wl_v rfl rfl rfl (v_eql rfl rfl) ?_
     refine wl_v rfl rfl rfl (v_assign rfl) ?_
     refine wl_nil ?_
     refine wc_cond rfl (fun c2 => ?_) (fun c2 => ?_)
     ·have c2p := of_decide_eq_true c2
      refine wc_region ?_
      refine wl_v rfl rfl rfl (v_move rfl) ?_
      refine wl_v rfl rfl rfl (v_move rfl) ?_
      refine wl_guard rfl rfl rfl (fun g57 => ?_) (fun g57 => ?_)
      ·have g57p := of_decide_eq_true g57
       refine wl_v rfl rfl rfl (v_fb (o2 := 1) fa128_1 rfl rfl) ?_
       refine wl_on' rfl rfl g57 ?_
       refine wl_v rfl rfl rfl (v_load one3 rfl (H4.at (by repeat constructor) rfl)) ?_
       refine wl_on' rfl rfl g57 ?_
       refine wl_v rfl rfl rfl (v_eql rfl rfl) ?_
       refine wl_v rfl rfl rfl (v_pick_t rfl g57 rfl) ?_
       refine wl_v rfl rfl rfl (v_move rfl) ?_
       refine wl_guard rfl rfl rfl (fun g62 => ?_) (fun g62 => ?_)
       ·have g62p := of_decide_eq_true g62
        refine wl_v rfl rfl rfl (v_fb (o2 := 2) fa128_2 rfl rfl) ?_
        refine wl_on' rfl rfl g62 ?_
        refine wl_v rfl rfl rfl (v_load one9 rfl (H4.at (by repeat constructor) rfl)) ?_
        refine wl_on' rfl rfl g62 ?_
        refine wl_v rfl rfl rfl (v_lens Try.underlying9 rfl) ?_
        refine wl_on' rfl rfl g62 ?_
        refine wl_v rfl rfl rfl (v_leq rfl rfl) ?_
        refine wl_v rfl rfl rfl (v_pick_t rfl g62 rfl) ?_
        refine wl_v rfl rfl rfl (v_assign rfl) ?_
        refine wl_nil ?_
        first
          | exact ⟨_, (sc rfl (sc rfl (sc rfl (sc rfl (sn _))))), ⟨dec_eq ⟨fun hd => by (have h_ := of_decide_eq_true hd; unfold nodeOk; omega), fun hh => decide_eq_true (by unfold nodeOk at hh; omega)⟩, H4.turn (by repeat constructor)⟩⟩
          | exact ⟨_, (sc rfl (sc rfl (sc rfl (sc rfl (sn _))))), ⟨(dec_f fun hh => by unfold nodeOk at hh; omega).symm, H4.turn (by repeat constructor)⟩⟩
       ·have g62p := of_decide_eq_false g62
        refine wl_off rfl rfl g62 rfl ?_
        refine wl_off rfl rfl g62 rfl ?_
        refine wl_off rfl rfl g62 rfl ?_
        refine wl_v rfl rfl rfl (v_pick_f rfl g62 rfl) ?_
        refine wl_v rfl rfl rfl (v_assign rfl) ?_
        refine wl_nil ?_
        first
          | exact ⟨_, (sc rfl (sc rfl (sc rfl (sc rfl (sn _))))), ⟨dec_eq ⟨fun hd => by (have h_ := of_decide_eq_true hd; unfold nodeOk; omega), fun hh => decide_eq_true (by unfold nodeOk at hh; omega)⟩, H4.turn (by repeat constructor)⟩⟩
          | exact ⟨_, (sc rfl (sc rfl (sc rfl (sc rfl (sn _))))), ⟨(dec_f fun hh => by unfold nodeOk at hh; omega).symm, H4.turn (by repeat constructor)⟩⟩
      ·have g57p := of_decide_eq_false g57
       refine wl_off rfl rfl g57 rfl ?_
       refine wl_off rfl rfl g57 rfl ?_
       refine wl_v rfl rfl rfl (v_pick_f rfl g57 rfl) ?_
       refine wl_v rfl rfl rfl (v_move rfl) ?_
       refine wl_off rfl rfl rfl rfl ?_
       refine wl_off rfl rfl rfl rfl ?_
       refine wl_off rfl rfl rfl rfl ?_
       refine wl_off rfl rfl rfl rfl ?_
       refine wl_v rfl rfl rfl (v_pick_f rfl rfl rfl) ?_
       refine wl_v rfl rfl rfl (v_assign rfl) ?_
       refine wl_nil ?_
       first
         | exact ⟨_, (sc rfl (sc rfl (sc rfl (sc rfl (sn _))))), ⟨dec_eq ⟨fun hd => by (have h_ := of_decide_eq_true hd; unfold nodeOk; omega), fun hh => decide_eq_true (by unfold nodeOk at hh; omega)⟩, H4.turn (by repeat constructor)⟩⟩
         | exact ⟨_, (sc rfl (sc rfl (sc rfl (sc rfl (sn _))))), ⟨(dec_f fun hh => by unfold nodeOk at hh; omega).symm, H4.turn (by repeat constructor)⟩⟩
     ·have c2p := of_decide_eq_false c2
      refine wc_seq ?_
      refine wc_region ?_
      refine wl_v rfl rfl rfl (v_eql rfl rfl) ?_
      refine wl_v rfl rfl rfl (v_assign rfl) ?_
      refine wl_nil ?_
      refine wc_cond rfl (fun c3 => ?_) (fun c3 => ?_)
      ·have c3p := of_decide_eq_true c3
       refine wc_region ?_
       refine wl_v rfl rfl rfl (v_fb (o2 := 1) fa128_1 rfl rfl) ?_
       refine wl_v rfl rfl rfl (v_load one3 rfl (H4.at (by repeat constructor) rfl)) ?_
       refine wl_v rfl rfl rfl (v_eql rfl rfl) ?_
       refine wl_v rfl rfl rfl (v_move rfl) ?_
       refine wl_guard rfl rfl rfl (fun g73 => ?_) (fun g73 => ?_)
       ·have g73p := of_decide_eq_true g73
        refine wl_v rfl rfl rfl (v_fb (o2 := 2) fa128_2 rfl rfl) ?_
        refine wl_on' rfl rfl g73 ?_
        refine wl_v rfl rfl rfl (v_load one9 rfl (H4.at (by repeat constructor) rfl)) ?_
        refine wl_on' rfl rfl g73 ?_
        refine wl_v rfl rfl rfl (v_lens Try.underlying9 rfl) ?_
        refine wl_on' rfl rfl g73 ?_
        refine wl_v rfl rfl rfl (v_geq rfl rfl) ?_
        refine wl_v rfl rfl rfl (v_pick_t rfl g73 rfl) ?_
        refine wl_v rfl rfl rfl (v_move rfl) ?_
        refine wl_guard rfl rfl rfl (fun g79 => ?_) (fun g79 => ?_)
        ·have g79p := of_decide_eq_true g79
         refine wl_v rfl rfl rfl (v_fb (o2 := 2) fa128_2 rfl rfl) ?_
         refine wl_on' rfl rfl g79 ?_
         refine wl_v rfl rfl rfl (v_load one9 rfl (H4.at (by repeat constructor) rfl)) ?_
         refine wl_on' rfl rfl g79 ?_
         refine wl_v rfl rfl rfl (v_lens Try.underlying9 rfl) ?_
         refine wl_on' rfl rfl g79 ?_
         refine wl_v rfl rfl rfl (v_leq rfl rfl) ?_
         refine wl_v rfl rfl rfl (v_pick_t rfl g79 rfl) ?_
         refine wl_v rfl rfl rfl (v_assign rfl) ?_
         refine wl_nil ?_
         first
           | exact ⟨_, (sc rfl (sc rfl (sc rfl (sc rfl (sn _))))), ⟨dec_eq ⟨fun hd => by (have h_ := of_decide_eq_true hd; unfold nodeOk; omega), fun hh => decide_eq_true (by unfold nodeOk at hh; omega)⟩, H4.turn (by repeat constructor)⟩⟩
           | exact ⟨_, (sc rfl (sc rfl (sc rfl (sc rfl (sn _))))), ⟨(dec_f fun hh => by unfold nodeOk at hh; omega).symm, H4.turn (by repeat constructor)⟩⟩
        ·have g79p := of_decide_eq_false g79
         refine wl_off rfl rfl g79 rfl ?_
         refine wl_off rfl rfl g79 rfl ?_
         refine wl_off rfl rfl g79 rfl ?_
         refine wl_v rfl rfl rfl (v_pick_f rfl g79 rfl) ?_
         refine wl_v rfl rfl rfl (v_assign rfl) ?_
         refine wl_nil ?_
         first
           | exact ⟨_, (sc rfl (sc rfl (sc rfl (sc rfl (sn _))))), ⟨dec_eq ⟨fun hd => by (have h_ := of_decide_eq_true hd; unfold nodeOk; omega), fun hh => decide_eq_true (by unfold nodeOk at hh; omega)⟩, H4.turn (by repeat constructor)⟩⟩
           | exact ⟨_, (sc rfl (sc rfl (sc rfl (sc rfl (sn _))))), ⟨(dec_f fun hh => by unfold nodeOk at hh; omega).symm, H4.turn (by repeat constructor)⟩⟩
       ·have g73p := of_decide_eq_false g73
        refine wl_off rfl rfl g73 rfl ?_
        refine wl_off rfl rfl g73 rfl ?_
        refine wl_off rfl rfl g73 rfl ?_
        refine wl_v rfl rfl rfl (v_pick_f rfl g73 rfl) ?_
        refine wl_v rfl rfl rfl (v_move rfl) ?_
        refine wl_off rfl rfl rfl rfl ?_
        refine wl_off rfl rfl rfl rfl ?_
        refine wl_off rfl rfl rfl rfl ?_
        refine wl_off rfl rfl rfl rfl ?_
        refine wl_v rfl rfl rfl (v_pick_f rfl rfl rfl) ?_
        refine wl_v rfl rfl rfl (v_assign rfl) ?_
        refine wl_nil ?_
        first
          | exact ⟨_, (sc rfl (sc rfl (sc rfl (sc rfl (sn _))))), ⟨dec_eq ⟨fun hd => by (have h_ := of_decide_eq_true hd; unfold nodeOk; omega), fun hh => decide_eq_true (by unfold nodeOk at hh; omega)⟩, H4.turn (by repeat constructor)⟩⟩
          | exact ⟨_, (sc rfl (sc rfl (sc rfl (sc rfl (sn _))))), ⟨(dec_f fun hh => by unfold nodeOk at hh; omega).symm, H4.turn (by repeat constructor)⟩⟩
      ·have c3p := of_decide_eq_false c3
       refine wc_skip ?_
       first
         | exact ⟨_, (sc rfl (sc rfl (sc rfl (sc rfl (sn _))))), ⟨dec_eq ⟨fun hd => by (have h_ := of_decide_eq_true hd; unfold nodeOk; omega), fun hh => decide_eq_true (by unfold nodeOk at hh; omega)⟩, H4.turn (by repeat constructor)⟩⟩
         | exact ⟨_, (sc rfl (sc rfl (sc rfl (sc rfl (sn _))))), ⟨(dec_f fun hh => by unfold nodeOk at hh; omega).symm, H4.turn (by repeat constructor)⟩⟩
  ·rintro ok Wm ⟨hok, H⟩
   refine wc_seq ?_
   refine wc_seq ?_
   refine wc_region ?_
   refine wl_v rfl rfl rfl (v_fb (o2 := 3) fa128_3 rfl rfl) ?_
   refine wl_v rfl rfl rfl (v_load one126 rfl (H.at (by repeat constructor) rfl)) ?_
   refine wl_v rfl rfl rfl (v_len Try.underlying126 rfl) ?_
   refine wl_v rfl rfl rfl (v_move rfl) ?_
   refine wl_nil ?_
   refine wc_block ?_
   refine wc_loop (σ := Nat × Int × Bool) (fun s => [(1, .int .i64 syms), (2, .pointer (some ⟨b, 0, none⟩)), (3, .pointer (some ⟨b3, 0, none⟩)), (8, .bool s.2.2), (86, .slice B t.kids.length k), (87, .int .i64 t.kids.length), (88, .int .i64 s.1)]) (fun s W => PSt syms t n s.1 s.2.1 s.2.2 ∧ Holds w0 (Blk b 3 [.int .i64 s.2.1] :: Blk b3 128 [.int .i64 t.x.kind, .int .i64 t.x.at_, .string t.x.name, .slice B t.kids.length k] :: L) W) (fun s => t.kids.length - s.1) (0, n + 1, ok) (sc rfl (sc rfl (sc rfl (sc rfl (sc rfl (sc rfl (sc rfl (sn _)))))))) ⟨PSt.start hok, H⟩ ?_
   rintro ⟨i, m, ok2⟩ W0 ⟨hp, H⟩
   dsimp only at hp H ⊢
   have hle := hp.le
   have hlo := hp.lo
   have hhi := hp.hi
   have hct := hp.cnt
   refine wc_seq ?_
   refine wc_region ?_
   refine wl_v rfl rfl rfl (v_lss rfl rfl) ?_
   refine wl_nil ?_
   refine wc_seq ?_
   refine wc_cond rfl (fun c4 => ?_) (fun c4 => ?_)
   ·have c4p := of_decide_eq_true c4
    have hsucc := Tr.cnts_succ ac0 t.kids i (by omega)
    have htk := Tr.cnts_take t.kids (i + 1)
    refine wc_skip ?_
    refine wc_seq ?_
    refine wc_block ?_
    refine wc_seq ?_
    refine wc_region ?_
    refine wl_v rfl rfl rfl (v_idx Try.underlying126 sz128 hr.ad rfl rfl (by omega) (by omega)) ?_
    obtain ⟨B91_, k91_, hc91_, hl91_, hr91_⟩ := hr.atTr ac0 (i := i) (by omega)
    refine wl_v rfl rfl rfl (v_loadN (cs := [.int .i64 (t.kids.getD i ac0).x.kind, .int .i64 (t.kids.getD i ac0).x.at_, .string (t.kids.getD i ac0).x.name, .slice B91_ (t.kids.getD i ac0).kids.length k91_]) agg128 rfl rfl (fun q_ u_ hu_ => H.cell (hc91_ q_ u_ hu_))) ?_
    refine wl_alloc (cs := [.int .i64 0, .int .i64 0, .string ⟨#[]⟩, .slice none 0 0]) H rfl zv128 rfl ?_
    intro b10 w8 hb10 H9
    refine wl_store (vs := [_, _, _, _]) H9 (by repeat constructor) sz128 rfl rfl rfl rfl rfl (by (repeat constructor)) ?_
    intro w10 H11 hw10
    refine wl_nil ?_
    refine wc_region ?_
    refine wl_v rfl rfl rfl (v_move rfl) ?_
    refine wl_v rfl rfl rfl (v_move rfl) ?_
    refine wl_guard rfl rfl rfl (fun g93 => ?_) (fun g93 => ?_)
    ·refine wl_v rfl rfl rfl (v_move rfl) ?_
     refine wl_on' rfl rfl g93 ?_
     refine wl_v rfl rfl rfl (v_nil rfl) ?_
     refine wl_on' rfl rfl g93 ?_
     refine wl_v rfl rfl rfl (v_load one3 rfl (H11.at (by repeat constructor) rfl)) ?_
     refine wl_on' rfl rfl g93 ?_
     refine wl_v rfl rfl rfl (v_leq rfl rfl) ?_
     refine wl_v rfl rfl rfl (v_pick_t rfl g93 rfl) ?_
     refine wl_v rfl rfl rfl (v_move rfl) ?_
     refine wl_guard rfl rfl rfl (fun g99 => ?_) (fun g99 => ?_)
     ·have g99p := of_decide_eq_true g99
      refine wl_v rfl rfl rfl (v_loadN agg128 rfl rfl (H11.ats (by repeat constructor))) ?_
      refine wl_on' rfl rfl g99 ?_
      refine wl_v rfl rfl rfl (v_move rfl) ?_
      refine wl_on' rfl rfl g99 ?_
      refine wl_v rfl rfl rfl (v_move rfl) ?_
      refine wl_on' rfl rfl g99 ?_
      refine wl_call en76 rfl rfl (ih _ (getD_mem (z := ac0) (show i < t.kids.length by omega)) w0 _ _ _ _ _ m syms hl91_ hr91_ (by omega) (H11.turn (A := Blk b 3 [.int .i64 m]) (by repeat constructor))) ?_
      rintro _ w12 ⟨m2, rfl, ⟨hm1, hm2⟩, Hc⟩
      have hps := hp.call (by omega) g93 rfl hm1 hm2
      refine wl_v rfl rfl rfl (v_pick_t rfl g99 rfl) ?_
      refine wl_v rfl rfl rfl (v_assign rfl) ?_
      refine wl_nil ?_
      refine wc_region ?_
      refine wl_v rfl rfl rfl (v_addi rfl rfl (by omega)) ?_
      refine wl_v rfl rfl rfl (v_move rfl) ?_
      refine wl_nil ?_
      first
        | exact ⟨(i + 1, m2, _), (sc rfl (sc rfl (sc rfl (sc rfl (sc rfl (sc rfl (sc rfl (sn _)))))))), ⟨hps, Hc.drop (.there _ (.here _ _))⟩, by dsimp only; omega⟩
        | exact ⟨(i + 1, m, _), (sc rfl (sc rfl (sc rfl (sc rfl (sc rfl (sc rfl (sc rfl (sn _)))))))), ⟨hp.skip (by omega) (.inl g93) rfl, Hc.tail⟩, by dsimp only; omega⟩
        | exact ⟨(i + 1, m, _), (sc rfl (sc rfl (sc rfl (sc rfl (sc rfl (sc rfl (sc rfl (sn _)))))))), ⟨hp.skip (by omega) (.inr (by omega)) rfl, Hc.tail⟩, by dsimp only; omega⟩
     ·have g99p := of_decide_eq_false g99
      refine wl_off rfl rfl g99 rfl ?_
      refine wl_off rfl rfl g99 rfl ?_
      refine wl_off rfl rfl g99 rfl ?_
      refine wl_v rfl rfl rfl (v_pick_f rfl g99 rfl) ?_
      refine wl_v rfl rfl rfl (v_assign rfl) ?_
      refine wl_nil ?_
      refine wc_region ?_
      refine wl_v rfl rfl rfl (v_addi rfl rfl (by omega)) ?_
      refine wl_v rfl rfl rfl (v_move rfl) ?_
      refine wl_nil ?_
      first
        | exact ⟨(i + 1, m2, _), (sc rfl (sc rfl (sc rfl (sc rfl (sc rfl (sc rfl (sc rfl (sn _)))))))), ⟨hps, H11.drop (.there _ (.here _ _))⟩, by dsimp only; omega⟩
        | exact ⟨(i + 1, m, _), (sc rfl (sc rfl (sc rfl (sc rfl (sc rfl (sc rfl (sc rfl (sn _)))))))), ⟨hp.skip (by omega) (.inl g93) rfl, H11.tail⟩, by dsimp only; omega⟩
        | exact ⟨(i + 1, m, _), (sc rfl (sc rfl (sc rfl (sc rfl (sc rfl (sc rfl (sc rfl (sn _)))))))), ⟨hp.skip (by omega) (.inr (by omega)) rfl, H11.tail⟩, by dsimp only; omega⟩
    ·refine wl_off rfl rfl g93 rfl ?_
     refine wl_off rfl rfl g93 rfl ?_
     refine wl_off rfl rfl g93 rfl ?_
     refine wl_v rfl rfl rfl (v_pick_f rfl g93 rfl) ?_
     refine wl_v rfl rfl rfl (v_move rfl) ?_
     refine wl_off rfl rfl rfl rfl ?_
     refine wl_off rfl rfl rfl rfl ?_
     refine wl_off rfl rfl rfl rfl ?_
     refine wl_off rfl rfl rfl rfl ?_
     refine wl_v rfl rfl rfl (v_pick_f rfl rfl rfl) ?_
     refine wl_v rfl rfl rfl (v_assign rfl) ?_
     refine wl_nil ?_
     refine wc_region ?_
     refine wl_v rfl rfl rfl (v_addi rfl rfl (by omega)) ?_
     refine wl_v rfl rfl rfl (v_move rfl) ?_
     refine wl_nil ?_
     first
       | exact ⟨(i + 1, m2, _), (sc rfl (sc rfl (sc rfl (sc rfl (sc rfl (sc rfl (sc rfl (sn _)))))))), ⟨hps, H11.drop (.there _ (.here _ _))⟩, by dsimp only; omega⟩
       | exact ⟨(i + 1, m, _), (sc rfl (sc rfl (sc rfl (sc rfl (sc rfl (sc rfl (sc rfl (sn _)))))))), ⟨hp.skip (by omega) (.inl g93) rfl, H11.tail⟩, by dsimp only; omega⟩
       | exact ⟨(i + 1, m, _), (sc rfl (sc rfl (sc rfl (sc rfl (sc rfl (sc rfl (sc rfl (sn _)))))))), ⟨hp.skip (by omega) (.inr (by omega)) rfl, H11.tail⟩, by dsimp only; omega⟩
   ·have c4p := of_decide_eq_false c4
    refine wc_exit ?_
    refine wc_seq ?_
    refine wc_region ?_
    refine wl_v rfl rfl rfl (v_move rfl) ?_
    refine wl_v rfl rfl rfl (v_move rfl) ?_
    refine wl_guard rfl rfl rfl (fun g107 => ?_) (fun g107 => ?_)
    ·refine wl_v rfl rfl rfl (v_move rfl) ?_
     refine wl_on' rfl rfl g107 ?_
     refine wl_v rfl rfl rfl (v_nil rfl) ?_
     refine wl_on' rfl rfl g107 ?_
     refine wl_v rfl rfl rfl (v_load one3 rfl (H.at (by repeat constructor) rfl)) ?_
     refine wl_on' rfl rfl g107 ?_
     refine wl_v rfl rfl rfl (v_leq rfl rfl) ?_
     refine wl_v rfl rfl rfl (v_pick_t rfl g107 rfl) ?_
     refine wl_v rfl rfl rfl (v_assign rfl) ?_
     refine wl_nil ?_
     refine wc_ret ?_
     first
       | exact ⟨_, res1 rfl rfl, m, congrArg Value.bool (hp.fin c4p ⟨fun hd => ⟨g107, of_decide_eq_true hd⟩, fun hh => decide_eq_true hh.2⟩), hp.out c4p, H.drop (.there _ (.here _ _))⟩
       | exact ⟨_, res1 rfl rfl, m, congrArg Value.bool (hp.fin c4p ⟨fun hd => absurd hd Bool.noConfusion, fun hh => absurd (hh.1.symm.trans g107) Bool.noConfusion⟩), hp.out c4p, H.drop (.there _ (.here _ _))⟩
    ·refine wl_off rfl rfl g107 rfl ?_
     refine wl_off rfl rfl g107 rfl ?_
     refine wl_off rfl rfl g107 rfl ?_
     refine wl_v rfl rfl rfl (v_pick_f rfl g107 rfl) ?_
     refine wl_v rfl rfl rfl (v_assign rfl) ?_
     refine wl_nil ?_
     refine wc_ret ?_
     first
       | exact ⟨_, res1 rfl rfl, m, congrArg Value.bool (hp.fin c4p ⟨fun hd => ⟨g107, of_decide_eq_true hd⟩, fun hh => decide_eq_true hh.2⟩), hp.out c4p, H.drop (.there _ (.here _ _))⟩
       | exact ⟨_, res1 rfl rfl, m, congrArg Value.bool (hp.fin c4p ⟨fun hd => absurd hd Bool.noConfusion, fun hh => absurd (hh.1.symm.trans g107) Bool.noConfusion⟩), hp.out c4p, H.drop (.there _ (.here _ _))⟩

theorem parts_calls : ∀ t : Ac, PartsOk t := Tr.ind fun x kids ih => fun w0 w L B b k n syms hk hr hn HH => parts_step (t := .mk x kids) hk hr hn HH ih

def RPartsOk (t : Ac) : Prop := ∀ (w : World) (B : Option Addr) (k : Nat) (left syms : Int) (hk : t.kids.length ≤ k) (hr : Rd (kTr fAc) w B t.kids) (hn : 0 ≤ left ∧ left ≤ 1099511627776) (hcn : t.cnt ≤ 1099511627776), Calls Try.prog 78 #[.agg #[.int .i64 t.x.kind, .int .i64 t.x.at_, .string t.x.name, .slice B t.kids.length k], .int .i64 syms, .int .i64 left] w fun e w' => ∃ v, e = .returned v ∧ v = .int .i64 (leftA syms left t) ∧ Holds w [] w'

set_option maxHeartbeats 3200000 in
set_option maxRecDepth 100000 in
theorem rparts_step {w : World} {B : Option Addr} {k : Nat} {left syms : Int} {t : Ac} (hk : t.kids.length ≤ k) (hr : Rd (kTr fAc) w B t.kids) (hn : 0 ≤ left ∧ left ≤ 1099511627776) (hcn : t.cnt ≤ 1099511627776) (ih : ∀ t' ∈ t.kids, RPartsOk t') : Calls Try.prog 78 #[.agg #[.int .i64 t.x.kind, .int .i64 t.x.at_, .string t.x.name, .slice B t.kids.length k], .int .i64 syms, .int .i64 left] w fun e w' => ∃ v, e = .returned v ∧ v = .int .i64 (leftA syms left t) ∧ Holds w [] w' := by
  have hcnt := Tr.cnt_eq t
  have hkl := Tr.cnts_len t.kids
  refine calls_of Try.func78 rfl Try.ntmps78 rfl ?_
  have H := Holds.start w
  refine wc_seq ?_
  refine wc_region ?_
  refine wl_box (cs := [_, _, _, _]) H rfl rfl rfl ?_
  intro b3 w1 hb3 H2
  refine wl_v rfl rfl rfl (v_assign rfl) ?_
  refine wl_nil ?_
  refine wc_seq ?_
  refine wc_region ?_
  refine wl_v rfl rfl rfl (v_move rfl) ?_
  refine wl_v rfl rfl rfl (v_subi rfl rfl (by omega)) ?_
  refine wl_v rfl rfl rfl (v_assign rfl) ?_
  refine wl_nil ?_
  refine wc_seq ?_
  refine wc_seq ?_
  refine wc_region ?_
  refine wl_v rfl rfl rfl (v_move rfl) ?_
  refine wl_v rfl rfl rfl (v_lss rfl rfl) ?_
  refine wl_nil ?_
  refine wc_cond rfl (fun c0 => ?_) (fun c0 => ?_)
  ·have c0p := of_decide_eq_true c0
   refine wc_seq ?_
   refine wc_region ?_
   refine wl_v rfl rfl rfl (v_assign rfl) ?_
   refine wl_nil ?_
   refine wc_ret ?_
   first
     | exact ⟨_, res1 rfl rfl, congrArg (Value.int .i64) (hp.fin (by omega)), H2.pm (Pm.nil _)⟩
     | exact ⟨_, res1 rfl rfl, congrArg (Value.int .i64) (leftA_few (by omega)).symm, H2.pm (Pm.nil _)⟩
     | exact ⟨_, res1 rfl rfl, congrArg (Value.int .i64) (leftA_node (by unfold nodeOk; omega)).symm, H2.pm (Pm.nil _)⟩
  ·have c0p := of_decide_eq_false c0
   refine wc_skip ?_
   refine wc_seq ?_
   refine wc_region ?_
   refine wl_v rfl rfl rfl (v_fb (o2 := 1) fa128_1 rfl rfl) ?_
   refine wl_v rfl rfl rfl (v_load one3 rfl (H2.at (by repeat constructor) rfl)) ?_
   refine wl_v rfl rfl rfl (v_eql rfl rfl) ?_
   refine wl_v rfl rfl rfl (v_move rfl) ?_
   refine wl_guard rfl rfl rfl (fun g16 => ?_) (fun g16 => ?_)
   ·have g16p := of_decide_eq_true g16
    refine wl_v rfl rfl rfl (v_fb (o2 := 2) fa128_2 rfl rfl) ?_
    refine wl_on' rfl rfl g16 ?_
    refine wl_v rfl rfl rfl (v_load one9 rfl (H2.at (by repeat constructor) rfl)) ?_
    refine wl_on' rfl rfl g16 ?_
    refine wl_v rfl rfl rfl (v_eql0 rfl rfl) ?_
    refine wl_v rfl rfl rfl (v_pick_t rfl g16 rfl) ?_
    refine wl_v rfl rfl rfl (v_move rfl) ?_
    refine wl_guard rfl rfl rfl (fun g21 => ?_) (fun g21 => ?_)
    ·have g21p := of_decide_eq_true g21
     refine wl_v rfl rfl rfl (v_fb (o2 := 3) fa128_3 rfl rfl) ?_
     refine wl_on' rfl rfl g21 ?_
     refine wl_v rfl rfl rfl (v_load one126 rfl (H2.at (by repeat constructor) rfl)) ?_
     refine wl_on' rfl rfl g21 ?_
     refine wl_v rfl rfl rfl (v_len Try.underlying126 rfl) ?_
     refine wl_on' rfl rfl g21 ?_
     refine wl_v rfl rfl rfl (v_eql rfl rfl) ?_
     refine wl_v rfl rfl rfl (v_pick_t rfl g21 rfl) ?_
     refine wl_v rfl rfl rfl (v_assign rfl) ?_
     refine wl_nil ?_
     refine wc_cut (σ := Unit) (fun q => [(1, .int .i64 syms), (2, .int .i64 (left - 1)), (3, .pointer (some ⟨b3, 0, none⟩))]) (fun q W => (nodeOk syms t.x t.kids.length) ∧ Holds w [Blk b3 128 [.int .i64 t.x.kind, .int .i64 t.x.at_, .string t.x.name, .slice B t.kids.length k]] W) ?_ ?_
     ·refine wc_seq ?_
      refine wc_region ?_
      refine wl_v rfl rfl rfl (v_fb (o2 := 0) fa128_0 rfl rfl) ?_
      refine wl_v rfl rfl rfl (v_load one3 rfl (H2.at (by repeat constructor) rfl)) ?_
      refine wl_nil ?_
      refine wc_block ?_
      refine wc_seq ?_
      refine wc_region ?_
      refine wl_v rfl rfl rfl (v_eql rfl rfl) ?_
      refine wl_v rfl rfl rfl (v_assign rfl) ?_
      refine wl_nil ?_
      refine wc_cond rfl (fun c1 => ?_) (fun c1 => ?_)
      ·have c1p := of_decide_eq_true c1
       refine wc_seq ?_
       refine wc_region ?_
       refine wl_v rfl rfl rfl (v_move rfl) ?_
       refine wl_v rfl rfl rfl (v_not rfl) ?_
       refine wl_nil ?_
       refine wc_cond rfl (fun c2 => ?_) (fun c2 => ?_)
       ·have c2p := of_nd_t c2
        refine wc_seq ?_
        refine wc_region ?_
        refine wl_v rfl rfl rfl (v_assign rfl) ?_
        refine wl_nil ?_
        refine wc_ret ?_
        first
          | exact ⟨_, res1 rfl rfl, congrArg (Value.int .i64) (hp.fin (by omega)), H2.pm (Pm.nil _)⟩
          | exact ⟨_, res1 rfl rfl, congrArg (Value.int .i64) (leftA_few (by omega)).symm, H2.pm (Pm.nil _)⟩
          | exact ⟨_, res1 rfl rfl, congrArg (Value.int .i64) (leftA_node (by unfold nodeOk; omega)).symm, H2.pm (Pm.nil _)⟩
       ·have c2p := of_nd_f c2
        refine wc_skip ?_
        exact ⟨(), (sc rfl (sc rfl (sc rfl (sn _)))), ⟨by unfold nodeOk; omega, H2⟩⟩
      ·have c1p := of_decide_eq_false c1
       refine wc_seq ?_
       refine wc_region ?_
       refine wl_v rfl rfl rfl (v_eql rfl rfl) ?_
       refine wl_v rfl rfl rfl (v_assign rfl) ?_
       refine wl_nil ?_
       refine wc_cond rfl (fun c3 => ?_) (fun c3 => ?_)
       ·have c3p := of_decide_eq_true c3
        refine wc_seq ?_
        refine wc_region ?_
        refine wl_v rfl rfl rfl (v_fb (o2 := 1) fa128_1 rfl rfl) ?_
        refine wl_v rfl rfl rfl (v_load one3 rfl (H2.at (by repeat constructor) rfl)) ?_
        refine wl_v rfl rfl rfl (v_lss rfl rfl) ?_
        refine wl_v rfl rfl rfl (v_move rfl) ?_
        refine wl_guard rfl rfl rfl (fun g38 => ?_) (fun g38 => ?_)
        ·have g38p := of_decide_eq_false g38
         refine wl_v rfl rfl rfl (v_fb (o2 := 1) fa128_1 rfl rfl) ?_
         refine wl_on' rfl rfl g38 ?_
         refine wl_v rfl rfl rfl (v_load one3 rfl (H2.at (by repeat constructor) rfl)) ?_
         refine wl_on' rfl rfl g38 ?_
         refine wl_v rfl rfl rfl (v_move rfl) ?_
         refine wl_on' rfl rfl g38 ?_
         refine wl_v rfl rfl rfl (v_geq rfl rfl) ?_
         refine wl_v rfl rfl rfl (v_pick_f rfl g38 rfl) ?_
         refine wl_v rfl rfl rfl (v_move rfl) ?_
         refine wl_guard rfl rfl rfl (fun g44 => ?_) (fun g44 => ?_)
         ·have g44p := of_decide_eq_false g44
          refine wl_v rfl rfl rfl (v_fb (o2 := 2) fa128_2 rfl rfl) ?_
          refine wl_on' rfl rfl g44 ?_
          refine wl_v rfl rfl rfl (v_load one9 rfl (H2.at (by repeat constructor) rfl)) ?_
          refine wl_on' rfl rfl g44 ?_
          refine wl_v rfl rfl rfl (v_neq0 rfl rfl) ?_
          refine wl_v rfl rfl rfl (v_pick_f rfl g44 rfl) ?_
          refine wl_v rfl rfl rfl (v_move rfl) ?_
          refine wl_guard rfl rfl rfl (fun g49 => ?_) (fun g49 => ?_)
          ·have g49p := of_nd_f g49
           refine wl_v rfl rfl rfl (v_fb (o2 := 3) fa128_3 rfl rfl) ?_
           refine wl_on' rfl rfl g49 ?_
           refine wl_v rfl rfl rfl (v_load one126 rfl (H2.at (by repeat constructor) rfl)) ?_
           refine wl_on' rfl rfl g49 ?_
           refine wl_v rfl rfl rfl (v_len Try.underlying126 rfl) ?_
           refine wl_on' rfl rfl g49 ?_
           refine wl_v rfl rfl rfl (v_gtr rfl rfl) ?_
           refine wl_v rfl rfl rfl (v_pick_f rfl g49 rfl) ?_
           refine wl_nil ?_
           refine wc_cond rfl (fun c4 => ?_) (fun c4 => ?_)
           ·have c4p := of_decide_eq_true c4
            refine wc_seq ?_
            refine wc_region ?_
            refine wl_v rfl rfl rfl (v_assign rfl) ?_
            refine wl_nil ?_
            refine wc_ret ?_
            first
              | exact ⟨_, res1 rfl rfl, congrArg (Value.int .i64) (hp.fin (by omega)), H2.pm (Pm.nil _)⟩
              | exact ⟨_, res1 rfl rfl, congrArg (Value.int .i64) (leftA_few (by omega)).symm, H2.pm (Pm.nil _)⟩
              | exact ⟨_, res1 rfl rfl, congrArg (Value.int .i64) (leftA_node (by unfold nodeOk; omega)).symm, H2.pm (Pm.nil _)⟩
           ·have c4p := of_decide_eq_false c4
            refine wc_skip ?_
            exact ⟨(), (sc rfl (sc rfl (sc rfl (sn _)))), ⟨by unfold nodeOk; omega, H2⟩⟩
          ·have g49p := of_nd_t g49
           refine wl_off rfl rfl g49 rfl ?_
           refine wl_off rfl rfl g49 rfl ?_
           refine wl_off rfl rfl g49 rfl ?_
           refine wl_v rfl rfl rfl (v_pick_t rfl g49 rfl) ?_
           refine wl_nil ?_
           refine wc_cond_t rfl ?_
           refine wc_seq ?_
           refine wc_region ?_
           refine wl_v rfl rfl rfl (v_assign rfl) ?_
           refine wl_nil ?_
           refine wc_ret ?_
           first
             | exact ⟨_, res1 rfl rfl, congrArg (Value.int .i64) (hp.fin (by omega)), H2.pm (Pm.nil _)⟩
             | exact ⟨_, res1 rfl rfl, congrArg (Value.int .i64) (leftA_few (by omega)).symm, H2.pm (Pm.nil _)⟩
             | exact ⟨_, res1 rfl rfl, congrArg (Value.int .i64) (leftA_node (by unfold nodeOk; omega)).symm, H2.pm (Pm.nil _)⟩
         ·have g44p := of_decide_eq_true g44
          refine wl_off rfl rfl g44 rfl ?_
          refine wl_off rfl rfl g44 rfl ?_
          refine wl_v rfl rfl rfl (v_pick_t rfl g44 rfl) ?_
          refine wl_v rfl rfl rfl (v_move rfl) ?_
          refine wl_off rfl rfl rfl rfl ?_
          refine wl_off rfl rfl rfl rfl ?_
          refine wl_off rfl rfl rfl rfl ?_
          refine wl_off rfl rfl rfl rfl ?_
          refine wl_v rfl rfl rfl (v_pick_t rfl rfl rfl) ?_
          refine wl_nil ?_
          refine wc_cond_t rfl ?_
          refine wc_seq ?_
          refine wc_region ?_
          refine wl_v rfl rfl rfl (v_assign rfl) ?_
          refine wl_nil ?_
          refine wc_ret ?_
          first
            | exact ⟨_, res1 rfl rfl, congrArg (Value.int .i64) (hp.fin (by omega)), H2.pm (Pm.nil _)⟩
            | exact ⟨_, res1 rfl rfl, congrArg (Value.int .i64) (leftA_few (by omega)).symm, H2.pm (Pm.nil _)⟩
            | exact ⟨_, res1 rfl rfl, congrArg (Value.int .i64) (leftA_node (by unfold nodeOk; omega)).symm, H2.pm (Pm.nil _)⟩
        ·have g38p := of_decide_eq_true g38
         refine wl_off rfl rfl g38 rfl ?_
         refine wl_off rfl rfl g38 rfl ?_
         refine wl_off rfl rfl g38 rfl ?_
         refine wl_v rfl rfl rfl (v_pick_t rfl g38 rfl) ?_
         refine wl_v rfl rfl rfl (v_move rfl) ?_
         refine wl_off rfl rfl rfl rfl ?_
         refine wl_off rfl rfl rfl rfl ?_
         refine wl_off rfl rfl rfl rfl ?_
         refine wl_v rfl rfl rfl (v_pick_t rfl rfl rfl) ?_
         refine wl_v rfl rfl rfl (v_move rfl) ?_
         refine wl_off rfl rfl rfl rfl ?_
         refine wl_off rfl rfl rfl rfl ?_
         refine wl_off rfl rfl rfl rfl ?_
         refine wl_off rfl rfl rfl rfl ?_
         refine wl_v rfl rfl rfl (v_pick_t rfl rfl rfl) ?_
         refine wl_nil ?_
         refine wc_cond_t rfl ?_
         refine wc_seq ?_
         refine wc_region ?_
         refine wl_v rfl rfl rfl (v_assign rfl) ?_
         refine wl_nil ?_
         refine wc_ret ?_
         first
           | exact ⟨_, res1 rfl rfl, congrArg (Value.int .i64) (hp.fin (by omega)), H2.pm (Pm.nil _)⟩
           | exact ⟨_, res1 rfl rfl, congrArg (Value.int .i64) (leftA_few (by omega)).symm, H2.pm (Pm.nil _)⟩
           | exact ⟨_, res1 rfl rfl, congrArg (Value.int .i64) (leftA_node (by unfold nodeOk; omega)).symm, H2.pm (Pm.nil _)⟩
       ·have c3p := of_decide_eq_false c3
        refine wc_seq ?_
        refine wc_region ?_
        refine wl_v rfl rfl rfl (v_eql rfl rfl) ?_
        refine wl_v rfl rfl rfl (v_assign rfl) ?_
        refine wl_nil ?_
        refine wc_cond rfl (fun c5 => ?_) (fun c5 => ?_)
        ·have c5p := of_decide_eq_true c5
         refine wc_seq ?_
         refine wc_region ?_
         refine wl_v rfl rfl rfl (v_fb (o2 := 2) fa128_2 rfl rfl) ?_
         refine wl_v rfl rfl rfl (v_load one9 rfl (H2.at (by repeat constructor) rfl)) ?_
         refine wl_v rfl rfl rfl (v_lens Try.underlying9 rfl) ?_
         refine wl_v rfl rfl rfl (v_gtr rfl rfl) ?_
         refine wl_v rfl rfl rfl (v_move rfl) ?_
         refine wl_guard rfl rfl rfl (fun g61 => ?_) (fun g61 => ?_)
         ·have g61p := of_decide_eq_false g61
          refine wl_v rfl rfl rfl (v_fb (o2 := 1) fa128_1 rfl rfl) ?_
          refine wl_on' rfl rfl g61 ?_
          refine wl_v rfl rfl rfl (v_load one3 rfl (H2.at (by repeat constructor) rfl)) ?_
          refine wl_on' rfl rfl g61 ?_
          refine wl_v rfl rfl rfl (v_neq rfl rfl) ?_
          refine wl_v rfl rfl rfl (v_pick_f rfl g61 rfl) ?_
          refine wl_v rfl rfl rfl (v_move rfl) ?_
          refine wl_guard rfl rfl rfl (fun g66 => ?_) (fun g66 => ?_)
          ·have g66p := of_nd_f g66
           refine wl_v rfl rfl rfl (v_fb (o2 := 3) fa128_3 rfl rfl) ?_
           refine wl_on' rfl rfl g66 ?_
           refine wl_v rfl rfl rfl (v_load one126 rfl (H2.at (by repeat constructor) rfl)) ?_
           refine wl_on' rfl rfl g66 ?_
           refine wl_v rfl rfl rfl (v_len Try.underlying126 rfl) ?_
           refine wl_on' rfl rfl g66 ?_
           refine wl_v rfl rfl rfl (v_gtr rfl rfl) ?_
           refine wl_v rfl rfl rfl (v_pick_f rfl g66 rfl) ?_
           refine wl_nil ?_
           refine wc_cond rfl (fun c6 => ?_) (fun c6 => ?_)
           ·have c6p := of_decide_eq_true c6
            refine wc_seq ?_
            refine wc_region ?_
            refine wl_v rfl rfl rfl (v_assign rfl) ?_
            refine wl_nil ?_
            refine wc_ret ?_
            first
              | exact ⟨_, res1 rfl rfl, congrArg (Value.int .i64) (hp.fin (by omega)), H2.pm (Pm.nil _)⟩
              | exact ⟨_, res1 rfl rfl, congrArg (Value.int .i64) (leftA_few (by omega)).symm, H2.pm (Pm.nil _)⟩
              | exact ⟨_, res1 rfl rfl, congrArg (Value.int .i64) (leftA_node (by unfold nodeOk; omega)).symm, H2.pm (Pm.nil _)⟩
           ·have c6p := of_decide_eq_false c6
            refine wc_skip ?_
            exact ⟨(), (sc rfl (sc rfl (sc rfl (sn _)))), ⟨by unfold nodeOk; omega, H2⟩⟩
          ·have g66p := of_nd_t g66
           refine wl_off rfl rfl g66 rfl ?_
           refine wl_off rfl rfl g66 rfl ?_
           refine wl_off rfl rfl g66 rfl ?_
           refine wl_v rfl rfl rfl (v_pick_t rfl g66 rfl) ?_
           refine wl_nil ?_
           refine wc_cond_t rfl ?_
           refine wc_seq ?_
           refine wc_region ?_
           refine wl_v rfl rfl rfl (v_assign rfl) ?_
           refine wl_nil ?_
           refine wc_ret ?_
           first
             | exact ⟨_, res1 rfl rfl, congrArg (Value.int .i64) (hp.fin (by omega)), H2.pm (Pm.nil _)⟩
             | exact ⟨_, res1 rfl rfl, congrArg (Value.int .i64) (leftA_few (by omega)).symm, H2.pm (Pm.nil _)⟩
             | exact ⟨_, res1 rfl rfl, congrArg (Value.int .i64) (leftA_node (by unfold nodeOk; omega)).symm, H2.pm (Pm.nil _)⟩
         ·have g61p := of_decide_eq_true g61
          refine wl_off rfl rfl g61 rfl ?_
          refine wl_off rfl rfl g61 rfl ?_
          refine wl_v rfl rfl rfl (v_pick_t rfl g61 rfl) ?_
          refine wl_v rfl rfl rfl (v_move rfl) ?_
          refine wl_off rfl rfl rfl rfl ?_
          refine wl_off rfl rfl rfl rfl ?_
          refine wl_off rfl rfl rfl rfl ?_
          refine wl_off rfl rfl rfl rfl ?_
          refine wl_v rfl rfl rfl (v_pick_t rfl rfl rfl) ?_
          refine wl_nil ?_
          refine wc_cond_t rfl ?_
          refine wc_seq ?_
          refine wc_region ?_
          refine wl_v rfl rfl rfl (v_assign rfl) ?_
          refine wl_nil ?_
          refine wc_ret ?_
          first
            | exact ⟨_, res1 rfl rfl, congrArg (Value.int .i64) (hp.fin (by omega)), H2.pm (Pm.nil _)⟩
            | exact ⟨_, res1 rfl rfl, congrArg (Value.int .i64) (leftA_few (by omega)).symm, H2.pm (Pm.nil _)⟩
            | exact ⟨_, res1 rfl rfl, congrArg (Value.int .i64) (leftA_node (by unfold nodeOk; omega)).symm, H2.pm (Pm.nil _)⟩
        ·have c5p := of_decide_eq_false c5
         refine wc_seq ?_
         refine wc_region ?_
         refine wl_v rfl rfl rfl (v_eql rfl rfl) ?_
         refine wl_v rfl rfl rfl (v_assign rfl) ?_
         refine wl_nil ?_
         refine wc_cond rfl (fun c7 => ?_) (fun c7 => ?_)
         ·have c7p := of_decide_eq_true c7
          refine wc_seq ?_
          refine wc_region ?_
          refine wl_v rfl rfl rfl (v_fb (o2 := 2) fa128_2 rfl rfl) ?_
          refine wl_v rfl rfl rfl (v_load one9 rfl (H2.at (by repeat constructor) rfl)) ?_
          refine wl_v rfl rfl rfl (v_lens Try.underlying9 rfl) ?_
          refine wl_v rfl rfl rfl (v_lss rfl rfl) ?_
          refine wl_v rfl rfl rfl (v_move rfl) ?_
          refine wl_guard rfl rfl rfl (fun g78 => ?_) (fun g78 => ?_)
          ·have g78p := of_decide_eq_false g78
           refine wl_v rfl rfl rfl (v_fb (o2 := 2) fa128_2 rfl rfl) ?_
           refine wl_on' rfl rfl g78 ?_
           refine wl_v rfl rfl rfl (v_load one9 rfl (H2.at (by repeat constructor) rfl)) ?_
           refine wl_on' rfl rfl g78 ?_
           refine wl_v rfl rfl rfl (v_lens Try.underlying9 rfl) ?_
           refine wl_on' rfl rfl g78 ?_
           refine wl_v rfl rfl rfl (v_gtr rfl rfl) ?_
           refine wl_v rfl rfl rfl (v_pick_f rfl g78 rfl) ?_
           refine wl_v rfl rfl rfl (v_move rfl) ?_
           refine wl_guard rfl rfl rfl (fun g84 => ?_) (fun g84 => ?_)
           ·have g84p := of_decide_eq_false g84
            refine wl_v rfl rfl rfl (v_fb (o2 := 1) fa128_1 rfl rfl) ?_
            refine wl_on' rfl rfl g84 ?_
            refine wl_v rfl rfl rfl (v_load one3 rfl (H2.at (by repeat constructor) rfl)) ?_
            refine wl_on' rfl rfl g84 ?_
            refine wl_v rfl rfl rfl (v_neq rfl rfl) ?_
            refine wl_v rfl rfl rfl (v_pick_f rfl g84 rfl) ?_
            refine wl_nil ?_
            refine wc_cond rfl (fun c8 => ?_) (fun c8 => ?_)
            ·have c8p := of_nd_t c8
             refine wc_seq ?_
             refine wc_region ?_
             refine wl_v rfl rfl rfl (v_assign rfl) ?_
             refine wl_nil ?_
             refine wc_ret ?_
             first
               | exact ⟨_, res1 rfl rfl, congrArg (Value.int .i64) (hp.fin (by omega)), H2.pm (Pm.nil _)⟩
               | exact ⟨_, res1 rfl rfl, congrArg (Value.int .i64) (leftA_few (by omega)).symm, H2.pm (Pm.nil _)⟩
               | exact ⟨_, res1 rfl rfl, congrArg (Value.int .i64) (leftA_node (by unfold nodeOk; omega)).symm, H2.pm (Pm.nil _)⟩
            ·have c8p := of_nd_f c8
             refine wc_skip ?_
             exact ⟨(), (sc rfl (sc rfl (sc rfl (sn _)))), ⟨by unfold nodeOk; omega, H2⟩⟩
           ·have g84p := of_decide_eq_true g84
            refine wl_off rfl rfl g84 rfl ?_
            refine wl_off rfl rfl g84 rfl ?_
            refine wl_v rfl rfl rfl (v_pick_t rfl g84 rfl) ?_
            refine wl_nil ?_
            refine wc_cond_t rfl ?_
            refine wc_seq ?_
            refine wc_region ?_
            refine wl_v rfl rfl rfl (v_assign rfl) ?_
            refine wl_nil ?_
            refine wc_ret ?_
            first
              | exact ⟨_, res1 rfl rfl, congrArg (Value.int .i64) (hp.fin (by omega)), H2.pm (Pm.nil _)⟩
              | exact ⟨_, res1 rfl rfl, congrArg (Value.int .i64) (leftA_few (by omega)).symm, H2.pm (Pm.nil _)⟩
              | exact ⟨_, res1 rfl rfl, congrArg (Value.int .i64) (leftA_node (by unfold nodeOk; omega)).symm, H2.pm (Pm.nil _)⟩
          ·have g78p := of_decide_eq_true g78
           refine wl_off rfl rfl g78 rfl ?_
           refine wl_off rfl rfl g78 rfl ?_
           refine wl_off rfl rfl g78 rfl ?_
           refine wl_v rfl rfl rfl (v_pick_t rfl g78 rfl) ?_
           refine wl_v rfl rfl rfl (v_move rfl) ?_
           refine wl_off rfl rfl rfl rfl ?_
           refine wl_off rfl rfl rfl rfl ?_
           refine wl_off rfl rfl rfl rfl ?_
           refine wl_v rfl rfl rfl (v_pick_t rfl rfl rfl) ?_
           refine wl_nil ?_
           refine wc_cond_t rfl ?_
           refine wc_seq ?_
           refine wc_region ?_
           refine wl_v rfl rfl rfl (v_assign rfl) ?_
           refine wl_nil ?_
           refine wc_ret ?_
           first
             | exact ⟨_, res1 rfl rfl, congrArg (Value.int .i64) (hp.fin (by omega)), H2.pm (Pm.nil _)⟩
             | exact ⟨_, res1 rfl rfl, congrArg (Value.int .i64) (leftA_few (by omega)).symm, H2.pm (Pm.nil _)⟩
             | exact ⟨_, res1 rfl rfl, congrArg (Value.int .i64) (leftA_node (by unfold nodeOk; omega)).symm, H2.pm (Pm.nil _)⟩
         ·have c7p := of_decide_eq_false c7
          refine wc_seq ?_
          refine wc_region ?_
          refine wl_v rfl rfl rfl (v_assign rfl) ?_
          refine wl_nil ?_
          refine wc_ret ?_
          first
            | exact ⟨_, res1 rfl rfl, congrArg (Value.int .i64) (hp.fin (by omega)), H2.pm (Pm.nil _)⟩
            | exact ⟨_, res1 rfl rfl, congrArg (Value.int .i64) (leftA_few (by omega)).symm, H2.pm (Pm.nil _)⟩
            | exact ⟨_, res1 rfl rfl, congrArg (Value.int .i64) (leftA_node (by unfold nodeOk; omega)).symm, H2.pm (Pm.nil _)⟩
     ·rintro ⟨⟩ Wm ⟨hok, H⟩
      refine wc_seq ?_
      refine wc_seq ?_
      refine wc_region ?_
      refine wl_v rfl rfl rfl (v_assign rfl) ?_
      refine wl_nil ?_
      refine wc_block ?_
      refine wc_loop (σ := Nat × Int) (fun s => [(1, .int .i64 syms), (2, .int .i64 s.2), (3, .pointer (some ⟨b3, 0, none⟩)), (8, .int .i64 s.1)]) (fun s W => PSr syms t left s.1 s.2 ∧ Holds w [Blk b3 128 [.int .i64 t.x.kind, .int .i64 t.x.at_, .string t.x.name, .slice B t.kids.length k]] W) (fun s => t.kids.length - s.1) (0, left - 1) (sc rfl (sc rfl (sc rfl (sc rfl (sn _))))) ⟨PSr.start hok (by omega), H⟩ ?_
      rintro ⟨i, r⟩ W0 ⟨hp, H⟩
      dsimp only at hp H ⊢
      have hle := hp.le
      have hrg := hp.rng
      refine wc_seq ?_
      refine wc_seq ?_
      refine wc_region ?_
      refine wl_v rfl rfl rfl (v_move rfl) ?_
      refine wl_v rfl rfl rfl (v_fb (o2 := 3) fa128_3 rfl rfl) ?_
      refine wl_v rfl rfl rfl (v_load one126 rfl (H.at (by repeat constructor) rfl)) ?_
      refine wl_v rfl rfl rfl (v_len Try.underlying126 rfl) ?_
      refine wl_v rfl rfl rfl (v_lss rfl rfl) ?_
      refine wl_v rfl rfl rfl (v_move rfl) ?_
      refine wl_guard rfl rfl rfl (fun g94 => ?_) (fun g94 => ?_)
      ·have g94p := of_decide_eq_true g94
       have hsucc := Tr.cnts_succ ac0 t.kids i (by omega)
       have htk := Tr.cnts_take t.kids (i + 1)
       refine wl_v rfl rfl rfl (v_move rfl) ?_
       refine wl_on' rfl rfl g94 ?_
       refine wl_v rfl rfl rfl (v_geq rfl rfl) ?_
       refine wl_v rfl rfl rfl (v_pick_t rfl g94 rfl) ?_
       refine wl_nil ?_
       refine wc_cond rfl (fun c9 => ?_) (fun c9 => ?_)
       ·have c9p := of_decide_eq_true c9
        refine wc_skip ?_
        refine wc_seq ?_
        refine wc_block ?_
        refine wc_region ?_
        refine wl_v rfl rfl rfl (v_fb (o2 := 3) fa128_3 rfl rfl) ?_
        refine wl_v rfl rfl rfl (v_load one126 rfl (H.at (by repeat constructor) rfl)) ?_
        refine wl_v rfl rfl rfl (v_move rfl) ?_
        refine wl_v rfl rfl rfl (v_idx Try.underlying126 sz128 hr.ad rfl rfl (by omega) (by omega)) ?_
        obtain ⟨B104_, k104_, hc104_, hl104_, hr104_⟩ := hr.atTr ac0 (i := i) (by omega)
        refine wl_v rfl rfl rfl (v_loadN (cs := [.int .i64 (t.kids.getD i ac0).x.kind, .int .i64 (t.kids.getD i ac0).x.at_, .string (t.kids.getD i ac0).x.name, .slice B104_ (t.kids.getD i ac0).kids.length k104_]) agg128 rfl rfl (fun q_ u_ hu_ => H.cell (hc104_ q_ u_ hu_))) ?_
        refine wl_v rfl rfl rfl (v_move rfl) ?_
        refine wl_v rfl rfl rfl (v_move rfl) ?_
        refine wl_call en78 rfl rfl (ih _ (getD_mem (z := ac0) (show i < t.kids.length by omega)) _ _ _ r syms hl104_ (hr104_.below H.old) (by omega) (by omega)) ?_
        rintro _ w6 ⟨rfl, Hc⟩
        have H7 := H.call0 Hc
        refine wl_v rfl rfl rfl (v_assign rfl) ?_
        refine wl_nil ?_
        refine wc_region ?_
        refine wl_v rfl rfl rfl (v_move rfl) ?_
        refine wl_v rfl rfl rfl (v_addi rfl rfl (by omega)) ?_
        refine wl_v rfl rfl rfl (v_assign rfl) ?_
        refine wl_nil ?_
        exact ⟨(i + 1, _), (sc rfl (sc rfl (sc rfl (sc rfl (sn _))))), ⟨hp.next (by omega) (by omega), H7⟩, by dsimp only; omega⟩
       ·have c9p := of_decide_eq_false c9
        refine wc_exit ?_
        refine wc_seq ?_
        refine wc_region ?_
        refine wl_v rfl rfl rfl (v_move rfl) ?_
        refine wl_v rfl rfl rfl (v_assign rfl) ?_
        refine wl_nil ?_
        refine wc_ret ?_
        first
          | exact ⟨_, res1 rfl rfl, congrArg (Value.int .i64) (hp.fin (by omega)), H.pm (Pm.nil _)⟩
          | exact ⟨_, res1 rfl rfl, congrArg (Value.int .i64) (leftA_few (by omega)).symm, H.pm (Pm.nil _)⟩
          | exact ⟨_, res1 rfl rfl, congrArg (Value.int .i64) (leftA_node (by unfold nodeOk; omega)).symm, H.pm (Pm.nil _)⟩
      ·have g94p := of_decide_eq_false g94
       refine wl_off rfl rfl g94 rfl ?_
       refine wl_v rfl rfl rfl (v_pick_f rfl g94 rfl) ?_
       refine wl_nil ?_
       refine wc_cond_f rfl ?_
       refine wc_exit ?_
       refine wc_seq ?_
       refine wc_region ?_
       refine wl_v rfl rfl rfl (v_move rfl) ?_
       refine wl_v rfl rfl rfl (v_assign rfl) ?_
       refine wl_nil ?_
       refine wc_ret ?_
       first
         | exact ⟨_, res1 rfl rfl, congrArg (Value.int .i64) (hp.fin (by omega)), H.pm (Pm.nil _)⟩
         | exact ⟨_, res1 rfl rfl, congrArg (Value.int .i64) (leftA_few (by omega)).symm, H.pm (Pm.nil _)⟩
         | exact ⟨_, res1 rfl rfl, congrArg (Value.int .i64) (leftA_node (by unfold nodeOk; omega)).symm, H.pm (Pm.nil _)⟩
    ·have g21p := of_decide_eq_false g21
     refine wl_off rfl rfl g21 rfl ?_
     refine wl_off rfl rfl g21 rfl ?_
     refine wl_off rfl rfl g21 rfl ?_
     refine wl_v rfl rfl rfl (v_pick_f rfl g21 rfl) ?_
     refine wl_v rfl rfl rfl (v_assign rfl) ?_
     refine wl_nil ?_
     refine wc_cut (σ := Unit) (fun q => [(1, .int .i64 syms), (2, .int .i64 (left - 1)), (3, .pointer (some ⟨b3, 0, none⟩))]) (fun q W => (nodeOk syms t.x t.kids.length) ∧ Holds w [Blk b3 128 [.int .i64 t.x.kind, .int .i64 t.x.at_, .string t.x.name, .slice B t.kids.length k]] W) ?_ ?_
     ·refine wc_seq ?_
      refine wc_region ?_
      refine wl_v rfl rfl rfl (v_fb (o2 := 0) fa128_0 rfl rfl) ?_
      refine wl_v rfl rfl rfl (v_load one3 rfl (H2.at (by repeat constructor) rfl)) ?_
      refine wl_nil ?_
      refine wc_block ?_
      refine wc_seq ?_
      refine wc_region ?_
      refine wl_v rfl rfl rfl (v_eql rfl rfl) ?_
      refine wl_v rfl rfl rfl (v_assign rfl) ?_
      refine wl_nil ?_
      refine wc_cond rfl (fun c1 => ?_) (fun c1 => ?_)
      ·have c1p := of_decide_eq_true c1
       refine wc_seq ?_
       refine wc_region ?_
       refine wl_v rfl rfl rfl (v_move rfl) ?_
       refine wl_v rfl rfl rfl (v_not rfl) ?_
       refine wl_nil ?_
       refine wc_cond_t rfl ?_
       refine wc_seq ?_
       refine wc_region ?_
       refine wl_v rfl rfl rfl (v_assign rfl) ?_
       refine wl_nil ?_
       refine wc_ret ?_
       first
         | exact ⟨_, res1 rfl rfl, congrArg (Value.int .i64) (hp.fin (by omega)), H2.pm (Pm.nil _)⟩
         | exact ⟨_, res1 rfl rfl, congrArg (Value.int .i64) (leftA_few (by omega)).symm, H2.pm (Pm.nil _)⟩
         | exact ⟨_, res1 rfl rfl, congrArg (Value.int .i64) (leftA_node (by unfold nodeOk; omega)).symm, H2.pm (Pm.nil _)⟩
      ·have c1p := of_decide_eq_false c1
       refine wc_seq ?_
       refine wc_region ?_
       refine wl_v rfl rfl rfl (v_eql rfl rfl) ?_
       refine wl_v rfl rfl rfl (v_assign rfl) ?_
       refine wl_nil ?_
       refine wc_cond rfl (fun c3 => ?_) (fun c3 => ?_)
       ·have c3p := of_decide_eq_true c3
        refine wc_seq ?_
        refine wc_region ?_
        refine wl_v rfl rfl rfl (v_fb (o2 := 1) fa128_1 rfl rfl) ?_
        refine wl_v rfl rfl rfl (v_load one3 rfl (H2.at (by repeat constructor) rfl)) ?_
        refine wl_v rfl rfl rfl (v_lss rfl rfl) ?_
        refine wl_v rfl rfl rfl (v_move rfl) ?_
        refine wl_guard rfl rfl rfl (fun g38 => ?_) (fun g38 => ?_)
        ·have g38p := of_decide_eq_false g38
         refine wl_v rfl rfl rfl (v_fb (o2 := 1) fa128_1 rfl rfl) ?_
         refine wl_on' rfl rfl g38 ?_
         refine wl_v rfl rfl rfl (v_load one3 rfl (H2.at (by repeat constructor) rfl)) ?_
         refine wl_on' rfl rfl g38 ?_
         refine wl_v rfl rfl rfl (v_move rfl) ?_
         refine wl_on' rfl rfl g38 ?_
         refine wl_v rfl rfl rfl (v_geq rfl rfl) ?_
         refine wl_v rfl rfl rfl (v_pick_f rfl g38 rfl) ?_
         refine wl_v rfl rfl rfl (v_move rfl) ?_
         refine wl_guard rfl rfl rfl (fun g44 => ?_) (fun g44 => ?_)
         ·have g44p := of_decide_eq_false g44
          refine wl_v rfl rfl rfl (v_fb (o2 := 2) fa128_2 rfl rfl) ?_
          refine wl_on' rfl rfl g44 ?_
          refine wl_v rfl rfl rfl (v_load one9 rfl (H2.at (by repeat constructor) rfl)) ?_
          refine wl_on' rfl rfl g44 ?_
          refine wl_v rfl rfl rfl (v_neq0 rfl rfl) ?_
          refine wl_v rfl rfl rfl (v_pick_f rfl g44 rfl) ?_
          refine wl_v rfl rfl rfl (v_move rfl) ?_
          refine wl_guard rfl rfl rfl (fun g49 => ?_) (fun g49 => ?_)
          ·have g49p := of_nd_f g49
           refine wl_v rfl rfl rfl (v_fb (o2 := 3) fa128_3 rfl rfl) ?_
           refine wl_on' rfl rfl g49 ?_
           refine wl_v rfl rfl rfl (v_load one126 rfl (H2.at (by repeat constructor) rfl)) ?_
           refine wl_on' rfl rfl g49 ?_
           refine wl_v rfl rfl rfl (v_len Try.underlying126 rfl) ?_
           refine wl_on' rfl rfl g49 ?_
           refine wl_v rfl rfl rfl (v_gtr rfl rfl) ?_
           refine wl_v rfl rfl rfl (v_pick_f rfl g49 rfl) ?_
           refine wl_nil ?_
           refine wc_cond rfl (fun c4 => ?_) (fun c4 => ?_)
           ·have c4p := of_decide_eq_true c4
            refine wc_seq ?_
            refine wc_region ?_
            refine wl_v rfl rfl rfl (v_assign rfl) ?_
            refine wl_nil ?_
            refine wc_ret ?_
            first
              | exact ⟨_, res1 rfl rfl, congrArg (Value.int .i64) (hp.fin (by omega)), H2.pm (Pm.nil _)⟩
              | exact ⟨_, res1 rfl rfl, congrArg (Value.int .i64) (leftA_few (by omega)).symm, H2.pm (Pm.nil _)⟩
              | exact ⟨_, res1 rfl rfl, congrArg (Value.int .i64) (leftA_node (by unfold nodeOk; omega)).symm, H2.pm (Pm.nil _)⟩
           ·have c4p := of_decide_eq_false c4
            refine wc_skip ?_
            exact ⟨(), (sc rfl (sc rfl (sc rfl (sn _)))), ⟨by unfold nodeOk; omega, H2⟩⟩
          ·have g49p := of_nd_t g49
           refine wl_off rfl rfl g49 rfl ?_
           refine wl_off rfl rfl g49 rfl ?_
           refine wl_off rfl rfl g49 rfl ?_
           refine wl_v rfl rfl rfl (v_pick_t rfl g49 rfl) ?_
           refine wl_nil ?_
           refine wc_cond_t rfl ?_
           refine wc_seq ?_
           refine wc_region ?_
           refine wl_v rfl rfl rfl (v_assign rfl) ?_
           refine wl_nil ?_
           refine wc_ret ?_
           first
             | exact ⟨_, res1 rfl rfl, congrArg (Value.int .i64) (hp.fin (by omega)), H2.pm (Pm.nil _)⟩
             | exact ⟨_, res1 rfl rfl, congrArg (Value.int .i64) (leftA_few (by omega)).symm, H2.pm (Pm.nil _)⟩
             | exact ⟨_, res1 rfl rfl, congrArg (Value.int .i64) (leftA_node (by unfold nodeOk; omega)).symm, H2.pm (Pm.nil _)⟩
         ·have g44p := of_decide_eq_true g44
          refine wl_off rfl rfl g44 rfl ?_
          refine wl_off rfl rfl g44 rfl ?_
          refine wl_v rfl rfl rfl (v_pick_t rfl g44 rfl) ?_
          refine wl_v rfl rfl rfl (v_move rfl) ?_
          refine wl_off rfl rfl rfl rfl ?_
          refine wl_off rfl rfl rfl rfl ?_
          refine wl_off rfl rfl rfl rfl ?_
          refine wl_off rfl rfl rfl rfl ?_
          refine wl_v rfl rfl rfl (v_pick_t rfl rfl rfl) ?_
          refine wl_nil ?_
          refine wc_cond_t rfl ?_
          refine wc_seq ?_
          refine wc_region ?_
          refine wl_v rfl rfl rfl (v_assign rfl) ?_
          refine wl_nil ?_
          refine wc_ret ?_
          first
            | exact ⟨_, res1 rfl rfl, congrArg (Value.int .i64) (hp.fin (by omega)), H2.pm (Pm.nil _)⟩
            | exact ⟨_, res1 rfl rfl, congrArg (Value.int .i64) (leftA_few (by omega)).symm, H2.pm (Pm.nil _)⟩
            | exact ⟨_, res1 rfl rfl, congrArg (Value.int .i64) (leftA_node (by unfold nodeOk; omega)).symm, H2.pm (Pm.nil _)⟩
        ·have g38p := of_decide_eq_true g38
         refine wl_off rfl rfl g38 rfl ?_
         refine wl_off rfl rfl g38 rfl ?_
         refine wl_off rfl rfl g38 rfl ?_
         refine wl_v rfl rfl rfl (v_pick_t rfl g38 rfl) ?_
         refine wl_v rfl rfl rfl (v_move rfl) ?_
         refine wl_off rfl rfl rfl rfl ?_
         refine wl_off rfl rfl rfl rfl ?_
         refine wl_off rfl rfl rfl rfl ?_
         refine wl_v rfl rfl rfl (v_pick_t rfl rfl rfl) ?_
         refine wl_v rfl rfl rfl (v_move rfl) ?_
         refine wl_off rfl rfl rfl rfl ?_
         refine wl_off rfl rfl rfl rfl ?_
         refine wl_off rfl rfl rfl rfl ?_
         refine wl_off rfl rfl rfl rfl ?_
         refine wl_v rfl rfl rfl (v_pick_t rfl rfl rfl) ?_
         refine wl_nil ?_
         refine wc_cond_t rfl ?_
         refine wc_seq ?_
         refine wc_region ?_
         refine wl_v rfl rfl rfl (v_assign rfl) ?_
         refine wl_nil ?_
         refine wc_ret ?_
         first
           | exact ⟨_, res1 rfl rfl, congrArg (Value.int .i64) (hp.fin (by omega)), H2.pm (Pm.nil _)⟩
           | exact ⟨_, res1 rfl rfl, congrArg (Value.int .i64) (leftA_few (by omega)).symm, H2.pm (Pm.nil _)⟩
           | exact ⟨_, res1 rfl rfl, congrArg (Value.int .i64) (leftA_node (by unfold nodeOk; omega)).symm, H2.pm (Pm.nil _)⟩
       ·have c3p := of_decide_eq_false c3
        refine wc_seq ?_
        refine wc_region ?_
        refine wl_v rfl rfl rfl (v_eql rfl rfl) ?_
        refine wl_v rfl rfl rfl (v_assign rfl) ?_
        refine wl_nil ?_
        refine wc_cond rfl (fun c5 => ?_) (fun c5 => ?_)
        ·have c5p := of_decide_eq_true c5
         refine wc_seq ?_
         refine wc_region ?_
         refine wl_v rfl rfl rfl (v_fb (o2 := 2) fa128_2 rfl rfl) ?_
         refine wl_v rfl rfl rfl (v_load one9 rfl (H2.at (by repeat constructor) rfl)) ?_
         refine wl_v rfl rfl rfl (v_lens Try.underlying9 rfl) ?_
         refine wl_v rfl rfl rfl (v_gtr rfl rfl) ?_
         refine wl_v rfl rfl rfl (v_move rfl) ?_
         refine wl_guard rfl rfl rfl (fun g61 => ?_) (fun g61 => ?_)
         ·have g61p := of_decide_eq_false g61
          refine wl_v rfl rfl rfl (v_fb (o2 := 1) fa128_1 rfl rfl) ?_
          refine wl_on' rfl rfl g61 ?_
          refine wl_v rfl rfl rfl (v_load one3 rfl (H2.at (by repeat constructor) rfl)) ?_
          refine wl_on' rfl rfl g61 ?_
          refine wl_v rfl rfl rfl (v_neq rfl rfl) ?_
          refine wl_v rfl rfl rfl (v_pick_f rfl g61 rfl) ?_
          refine wl_v rfl rfl rfl (v_move rfl) ?_
          refine wl_guard rfl rfl rfl (fun g66 => ?_) (fun g66 => ?_)
          ·have g66p := of_nd_f g66
           refine wl_v rfl rfl rfl (v_fb (o2 := 3) fa128_3 rfl rfl) ?_
           refine wl_on' rfl rfl g66 ?_
           refine wl_v rfl rfl rfl (v_load one126 rfl (H2.at (by repeat constructor) rfl)) ?_
           refine wl_on' rfl rfl g66 ?_
           refine wl_v rfl rfl rfl (v_len Try.underlying126 rfl) ?_
           refine wl_on' rfl rfl g66 ?_
           refine wl_v rfl rfl rfl (v_gtr rfl rfl) ?_
           refine wl_v rfl rfl rfl (v_pick_f rfl g66 rfl) ?_
           refine wl_nil ?_
           refine wc_cond rfl (fun c6 => ?_) (fun c6 => ?_)
           ·have c6p := of_decide_eq_true c6
            refine wc_seq ?_
            refine wc_region ?_
            refine wl_v rfl rfl rfl (v_assign rfl) ?_
            refine wl_nil ?_
            refine wc_ret ?_
            first
              | exact ⟨_, res1 rfl rfl, congrArg (Value.int .i64) (hp.fin (by omega)), H2.pm (Pm.nil _)⟩
              | exact ⟨_, res1 rfl rfl, congrArg (Value.int .i64) (leftA_few (by omega)).symm, H2.pm (Pm.nil _)⟩
              | exact ⟨_, res1 rfl rfl, congrArg (Value.int .i64) (leftA_node (by unfold nodeOk; omega)).symm, H2.pm (Pm.nil _)⟩
           ·have c6p := of_decide_eq_false c6
            refine wc_skip ?_
            exact ⟨(), (sc rfl (sc rfl (sc rfl (sn _)))), ⟨by unfold nodeOk; omega, H2⟩⟩
          ·have g66p := of_nd_t g66
           refine wl_off rfl rfl g66 rfl ?_
           refine wl_off rfl rfl g66 rfl ?_
           refine wl_off rfl rfl g66 rfl ?_
           refine wl_v rfl rfl rfl (v_pick_t rfl g66 rfl) ?_
           refine wl_nil ?_
           refine wc_cond_t rfl ?_
           refine wc_seq ?_
           refine wc_region ?_
           refine wl_v rfl rfl rfl (v_assign rfl) ?_
           refine wl_nil ?_
           refine wc_ret ?_
           first
             | exact ⟨_, res1 rfl rfl, congrArg (Value.int .i64) (hp.fin (by omega)), H2.pm (Pm.nil _)⟩
             | exact ⟨_, res1 rfl rfl, congrArg (Value.int .i64) (leftA_few (by omega)).symm, H2.pm (Pm.nil _)⟩
             | exact ⟨_, res1 rfl rfl, congrArg (Value.int .i64) (leftA_node (by unfold nodeOk; omega)).symm, H2.pm (Pm.nil _)⟩
         ·have g61p := of_decide_eq_true g61
          refine wl_off rfl rfl g61 rfl ?_
          refine wl_off rfl rfl g61 rfl ?_
          refine wl_v rfl rfl rfl (v_pick_t rfl g61 rfl) ?_
          refine wl_v rfl rfl rfl (v_move rfl) ?_
          refine wl_off rfl rfl rfl rfl ?_
          refine wl_off rfl rfl rfl rfl ?_
          refine wl_off rfl rfl rfl rfl ?_
          refine wl_off rfl rfl rfl rfl ?_
          refine wl_v rfl rfl rfl (v_pick_t rfl rfl rfl) ?_
          refine wl_nil ?_
          refine wc_cond_t rfl ?_
          refine wc_seq ?_
          refine wc_region ?_
          refine wl_v rfl rfl rfl (v_assign rfl) ?_
          refine wl_nil ?_
          refine wc_ret ?_
          first
            | exact ⟨_, res1 rfl rfl, congrArg (Value.int .i64) (hp.fin (by omega)), H2.pm (Pm.nil _)⟩
            | exact ⟨_, res1 rfl rfl, congrArg (Value.int .i64) (leftA_few (by omega)).symm, H2.pm (Pm.nil _)⟩
            | exact ⟨_, res1 rfl rfl, congrArg (Value.int .i64) (leftA_node (by unfold nodeOk; omega)).symm, H2.pm (Pm.nil _)⟩
        ·have c5p := of_decide_eq_false c5
         refine wc_seq ?_
         refine wc_region ?_
         refine wl_v rfl rfl rfl (v_eql rfl rfl) ?_
         refine wl_v rfl rfl rfl (v_assign rfl) ?_
         refine wl_nil ?_
         refine wc_cond rfl (fun c7 => ?_) (fun c7 => ?_)
         ·have c7p := of_decide_eq_true c7
          refine wc_seq ?_
          refine wc_region ?_
          refine wl_v rfl rfl rfl (v_fb (o2 := 2) fa128_2 rfl rfl) ?_
          refine wl_v rfl rfl rfl (v_load one9 rfl (H2.at (by repeat constructor) rfl)) ?_
          refine wl_v rfl rfl rfl (v_lens Try.underlying9 rfl) ?_
          refine wl_v rfl rfl rfl (v_lss rfl rfl) ?_
          refine wl_v rfl rfl rfl (v_move rfl) ?_
          refine wl_guard rfl rfl rfl (fun g78 => ?_) (fun g78 => ?_)
          ·have g78p := of_decide_eq_false g78
           refine wl_v rfl rfl rfl (v_fb (o2 := 2) fa128_2 rfl rfl) ?_
           refine wl_on' rfl rfl g78 ?_
           refine wl_v rfl rfl rfl (v_load one9 rfl (H2.at (by repeat constructor) rfl)) ?_
           refine wl_on' rfl rfl g78 ?_
           refine wl_v rfl rfl rfl (v_lens Try.underlying9 rfl) ?_
           refine wl_on' rfl rfl g78 ?_
           refine wl_v rfl rfl rfl (v_gtr rfl rfl) ?_
           refine wl_v rfl rfl rfl (v_pick_f rfl g78 rfl) ?_
           refine wl_v rfl rfl rfl (v_move rfl) ?_
           refine wl_guard rfl rfl rfl (fun g84 => ?_) (fun g84 => ?_)
           ·have g84p := of_decide_eq_false g84
            refine wl_v rfl rfl rfl (v_fb (o2 := 1) fa128_1 rfl rfl) ?_
            refine wl_on' rfl rfl g84 ?_
            refine wl_v rfl rfl rfl (v_load one3 rfl (H2.at (by repeat constructor) rfl)) ?_
            refine wl_on' rfl rfl g84 ?_
            refine wl_v rfl rfl rfl (v_neq rfl rfl) ?_
            refine wl_v rfl rfl rfl (v_pick_f rfl g84 rfl) ?_
            refine wl_nil ?_
            refine wc_cond rfl (fun c8 => ?_) (fun c8 => ?_)
            ·have c8p := of_nd_t c8
             refine wc_seq ?_
             refine wc_region ?_
             refine wl_v rfl rfl rfl (v_assign rfl) ?_
             refine wl_nil ?_
             refine wc_ret ?_
             first
               | exact ⟨_, res1 rfl rfl, congrArg (Value.int .i64) (hp.fin (by omega)), H2.pm (Pm.nil _)⟩
               | exact ⟨_, res1 rfl rfl, congrArg (Value.int .i64) (leftA_few (by omega)).symm, H2.pm (Pm.nil _)⟩
               | exact ⟨_, res1 rfl rfl, congrArg (Value.int .i64) (leftA_node (by unfold nodeOk; omega)).symm, H2.pm (Pm.nil _)⟩
            ·have c8p := of_nd_f c8
             refine wc_skip ?_
             exact ⟨(), (sc rfl (sc rfl (sc rfl (sn _)))), ⟨by unfold nodeOk; omega, H2⟩⟩
           ·have g84p := of_decide_eq_true g84
            refine wl_off rfl rfl g84 rfl ?_
            refine wl_off rfl rfl g84 rfl ?_
            refine wl_v rfl rfl rfl (v_pick_t rfl g84 rfl) ?_
            refine wl_nil ?_
            refine wc_cond_t rfl ?_
            refine wc_seq ?_
            refine wc_region ?_
            refine wl_v rfl rfl rfl (v_assign rfl) ?_
            refine wl_nil ?_
            refine wc_ret ?_
            first
              | exact ⟨_, res1 rfl rfl, congrArg (Value.int .i64) (hp.fin (by omega)), H2.pm (Pm.nil _)⟩
              | exact ⟨_, res1 rfl rfl, congrArg (Value.int .i64) (leftA_few (by omega)).symm, H2.pm (Pm.nil _)⟩
              | exact ⟨_, res1 rfl rfl, congrArg (Value.int .i64) (leftA_node (by unfold nodeOk; omega)).symm, H2.pm (Pm.nil _)⟩
          ·have g78p := of_decide_eq_true g78
           refine wl_off rfl rfl g78 rfl ?_
           refine wl_off rfl rfl g78 rfl ?_
           refine wl_off rfl rfl g78 rfl ?_
           refine wl_v rfl rfl rfl (v_pick_t rfl g78 rfl) ?_
           refine wl_v rfl rfl rfl (v_move rfl) ?_
           refine wl_off rfl rfl rfl rfl ?_
           refine wl_off rfl rfl rfl rfl ?_
           refine wl_off rfl rfl rfl rfl ?_
           refine wl_v rfl rfl rfl (v_pick_t rfl rfl rfl) ?_
           refine wl_nil ?_
           refine wc_cond_t rfl ?_
           refine wc_seq ?_
           refine wc_region ?_
           refine wl_v rfl rfl rfl (v_assign rfl) ?_
           refine wl_nil ?_
           refine wc_ret ?_
           first
             | exact ⟨_, res1 rfl rfl, congrArg (Value.int .i64) (hp.fin (by omega)), H2.pm (Pm.nil _)⟩
             | exact ⟨_, res1 rfl rfl, congrArg (Value.int .i64) (leftA_few (by omega)).symm, H2.pm (Pm.nil _)⟩
             | exact ⟨_, res1 rfl rfl, congrArg (Value.int .i64) (leftA_node (by unfold nodeOk; omega)).symm, H2.pm (Pm.nil _)⟩
         ·have c7p := of_decide_eq_false c7
          refine wc_seq ?_
          refine wc_region ?_
          refine wl_v rfl rfl rfl (v_assign rfl) ?_
          refine wl_nil ?_
          refine wc_ret ?_
          first
            | exact ⟨_, res1 rfl rfl, congrArg (Value.int .i64) (hp.fin (by omega)), H2.pm (Pm.nil _)⟩
            | exact ⟨_, res1 rfl rfl, congrArg (Value.int .i64) (leftA_few (by omega)).symm, H2.pm (Pm.nil _)⟩
            | exact ⟨_, res1 rfl rfl, congrArg (Value.int .i64) (leftA_node (by unfold nodeOk; omega)).symm, H2.pm (Pm.nil _)⟩
     ·rintro ⟨⟩ Wm ⟨hok, H⟩
      refine wc_seq ?_
      refine wc_seq ?_
      refine wc_region ?_
      refine wl_v rfl rfl rfl (v_assign rfl) ?_
      refine wl_nil ?_
      refine wc_block ?_
      refine wc_loop (σ := Nat × Int) (fun s => [(1, .int .i64 syms), (2, .int .i64 s.2), (3, .pointer (some ⟨b3, 0, none⟩)), (8, .int .i64 s.1)]) (fun s W => PSr syms t left s.1 s.2 ∧ Holds w [Blk b3 128 [.int .i64 t.x.kind, .int .i64 t.x.at_, .string t.x.name, .slice B t.kids.length k]] W) (fun s => t.kids.length - s.1) (0, left - 1) (sc rfl (sc rfl (sc rfl (sc rfl (sn _))))) ⟨PSr.start hok (by omega), H⟩ ?_
      rintro ⟨i, r⟩ W0 ⟨hp, H⟩
      dsimp only at hp H ⊢
      have hle := hp.le
      have hrg := hp.rng
      refine wc_seq ?_
      refine wc_seq ?_
      refine wc_region ?_
      refine wl_v rfl rfl rfl (v_move rfl) ?_
      refine wl_v rfl rfl rfl (v_fb (o2 := 3) fa128_3 rfl rfl) ?_
      refine wl_v rfl rfl rfl (v_load one126 rfl (H.at (by repeat constructor) rfl)) ?_
      refine wl_v rfl rfl rfl (v_len Try.underlying126 rfl) ?_
      refine wl_v rfl rfl rfl (v_lss rfl rfl) ?_
      refine wl_v rfl rfl rfl (v_move rfl) ?_
      refine wl_guard rfl rfl rfl (fun g94 => ?_) (fun g94 => ?_)
      ·have g94p := of_decide_eq_true g94
       have hsucc := Tr.cnts_succ ac0 t.kids i (by omega)
       have htk := Tr.cnts_take t.kids (i + 1)
       refine wl_v rfl rfl rfl (v_move rfl) ?_
       refine wl_on' rfl rfl g94 ?_
       refine wl_v rfl rfl rfl (v_geq rfl rfl) ?_
       refine wl_v rfl rfl rfl (v_pick_t rfl g94 rfl) ?_
       refine wl_nil ?_
       refine wc_cond rfl (fun c9 => ?_) (fun c9 => ?_)
       ·have c9p := of_decide_eq_true c9
        refine wc_skip ?_
        refine wc_seq ?_
        refine wc_block ?_
        refine wc_region ?_
        refine wl_v rfl rfl rfl (v_fb (o2 := 3) fa128_3 rfl rfl) ?_
        refine wl_v rfl rfl rfl (v_load one126 rfl (H.at (by repeat constructor) rfl)) ?_
        refine wl_v rfl rfl rfl (v_move rfl) ?_
        refine wl_v rfl rfl rfl (v_idx Try.underlying126 sz128 hr.ad rfl rfl (by omega) (by omega)) ?_
        obtain ⟨B104_, k104_, hc104_, hl104_, hr104_⟩ := hr.atTr ac0 (i := i) (by omega)
        refine wl_v rfl rfl rfl (v_loadN (cs := [.int .i64 (t.kids.getD i ac0).x.kind, .int .i64 (t.kids.getD i ac0).x.at_, .string (t.kids.getD i ac0).x.name, .slice B104_ (t.kids.getD i ac0).kids.length k104_]) agg128 rfl rfl (fun q_ u_ hu_ => H.cell (hc104_ q_ u_ hu_))) ?_
        refine wl_v rfl rfl rfl (v_move rfl) ?_
        refine wl_v rfl rfl rfl (v_move rfl) ?_
        refine wl_call en78 rfl rfl (ih _ (getD_mem (z := ac0) (show i < t.kids.length by omega)) _ _ _ r syms hl104_ (hr104_.below H.old) (by omega) (by omega)) ?_
        rintro _ w10 ⟨rfl, Hc⟩
        have H11 := H.call0 Hc
        refine wl_v rfl rfl rfl (v_assign rfl) ?_
        refine wl_nil ?_
        refine wc_region ?_
        refine wl_v rfl rfl rfl (v_move rfl) ?_
        refine wl_v rfl rfl rfl (v_addi rfl rfl (by omega)) ?_
        refine wl_v rfl rfl rfl (v_assign rfl) ?_
        refine wl_nil ?_
        exact ⟨(i + 1, _), (sc rfl (sc rfl (sc rfl (sc rfl (sn _))))), ⟨hp.next (by omega) (by omega), H11⟩, by dsimp only; omega⟩
       ·have c9p := of_decide_eq_false c9
        refine wc_exit ?_
        refine wc_seq ?_
        refine wc_region ?_
        refine wl_v rfl rfl rfl (v_move rfl) ?_
        refine wl_v rfl rfl rfl (v_assign rfl) ?_
        refine wl_nil ?_
        refine wc_ret ?_
        first
          | exact ⟨_, res1 rfl rfl, congrArg (Value.int .i64) (hp.fin (by omega)), H.pm (Pm.nil _)⟩
          | exact ⟨_, res1 rfl rfl, congrArg (Value.int .i64) (leftA_few (by omega)).symm, H.pm (Pm.nil _)⟩
          | exact ⟨_, res1 rfl rfl, congrArg (Value.int .i64) (leftA_node (by unfold nodeOk; omega)).symm, H.pm (Pm.nil _)⟩
      ·have g94p := of_decide_eq_false g94
       refine wl_off rfl rfl g94 rfl ?_
       refine wl_v rfl rfl rfl (v_pick_f rfl g94 rfl) ?_
       refine wl_nil ?_
       refine wc_cond_f rfl ?_
       refine wc_exit ?_
       refine wc_seq ?_
       refine wc_region ?_
       refine wl_v rfl rfl rfl (v_move rfl) ?_
       refine wl_v rfl rfl rfl (v_assign rfl) ?_
       refine wl_nil ?_
       refine wc_ret ?_
       first
         | exact ⟨_, res1 rfl rfl, congrArg (Value.int .i64) (hp.fin (by omega)), H.pm (Pm.nil _)⟩
         | exact ⟨_, res1 rfl rfl, congrArg (Value.int .i64) (leftA_few (by omega)).symm, H.pm (Pm.nil _)⟩
         | exact ⟨_, res1 rfl rfl, congrArg (Value.int .i64) (leftA_node (by unfold nodeOk; omega)).symm, H.pm (Pm.nil _)⟩
   ·have g16p := of_decide_eq_false g16
    refine wl_off rfl rfl g16 rfl ?_
    refine wl_off rfl rfl g16 rfl ?_
    refine wl_v rfl rfl rfl (v_pick_f rfl g16 rfl) ?_
    refine wl_v rfl rfl rfl (v_move rfl) ?_
    refine wl_off rfl rfl rfl rfl ?_
    refine wl_off rfl rfl rfl rfl ?_
    refine wl_off rfl rfl rfl rfl ?_
    refine wl_off rfl rfl rfl rfl ?_
    refine wl_v rfl rfl rfl (v_pick_f rfl rfl rfl) ?_
    refine wl_v rfl rfl rfl (v_assign rfl) ?_
    refine wl_nil ?_
    refine wc_cut (σ := Unit) (fun q => [(1, .int .i64 syms), (2, .int .i64 (left - 1)), (3, .pointer (some ⟨b3, 0, none⟩))]) (fun q W => (nodeOk syms t.x t.kids.length) ∧ Holds w [Blk b3 128 [.int .i64 t.x.kind, .int .i64 t.x.at_, .string t.x.name, .slice B t.kids.length k]] W) ?_ ?_
    ·refine wc_seq ?_
     refine wc_region ?_
     refine wl_v rfl rfl rfl (v_fb (o2 := 0) fa128_0 rfl rfl) ?_
     refine wl_v rfl rfl rfl (v_load one3 rfl (H2.at (by repeat constructor) rfl)) ?_
     refine wl_nil ?_
     refine wc_block ?_
     refine wc_seq ?_
     refine wc_region ?_
     refine wl_v rfl rfl rfl (v_eql rfl rfl) ?_
     refine wl_v rfl rfl rfl (v_assign rfl) ?_
     refine wl_nil ?_
     refine wc_cond rfl (fun c1 => ?_) (fun c1 => ?_)
     ·have c1p := of_decide_eq_true c1
      refine wc_seq ?_
      refine wc_region ?_
      refine wl_v rfl rfl rfl (v_move rfl) ?_
      refine wl_v rfl rfl rfl (v_not rfl) ?_
      refine wl_nil ?_
      refine wc_cond_t rfl ?_
      refine wc_seq ?_
      refine wc_region ?_
      refine wl_v rfl rfl rfl (v_assign rfl) ?_
      refine wl_nil ?_
      refine wc_ret ?_
      first
        | exact ⟨_, res1 rfl rfl, congrArg (Value.int .i64) (hp.fin (by omega)), H2.pm (Pm.nil _)⟩
        | exact ⟨_, res1 rfl rfl, congrArg (Value.int .i64) (leftA_few (by omega)).symm, H2.pm (Pm.nil _)⟩
        | exact ⟨_, res1 rfl rfl, congrArg (Value.int .i64) (leftA_node (by unfold nodeOk; omega)).symm, H2.pm (Pm.nil _)⟩
     ·have c1p := of_decide_eq_false c1
      refine wc_seq ?_
      refine wc_region ?_
      refine wl_v rfl rfl rfl (v_eql rfl rfl) ?_
      refine wl_v rfl rfl rfl (v_assign rfl) ?_
      refine wl_nil ?_
      refine wc_cond rfl (fun c3 => ?_) (fun c3 => ?_)
      ·have c3p := of_decide_eq_true c3
       refine wc_seq ?_
       refine wc_region ?_
       refine wl_v rfl rfl rfl (v_fb (o2 := 1) fa128_1 rfl rfl) ?_
       refine wl_v rfl rfl rfl (v_load one3 rfl (H2.at (by repeat constructor) rfl)) ?_
       refine wl_v rfl rfl rfl (v_lss rfl rfl) ?_
       refine wl_v rfl rfl rfl (v_move rfl) ?_
       refine wl_guard rfl rfl rfl (fun g38 => ?_) (fun g38 => ?_)
       ·have g38p := of_decide_eq_false g38
        refine wl_v rfl rfl rfl (v_fb (o2 := 1) fa128_1 rfl rfl) ?_
        refine wl_on' rfl rfl g38 ?_
        refine wl_v rfl rfl rfl (v_load one3 rfl (H2.at (by repeat constructor) rfl)) ?_
        refine wl_on' rfl rfl g38 ?_
        refine wl_v rfl rfl rfl (v_move rfl) ?_
        refine wl_on' rfl rfl g38 ?_
        refine wl_v rfl rfl rfl (v_geq rfl rfl) ?_
        refine wl_v rfl rfl rfl (v_pick_f rfl g38 rfl) ?_
        refine wl_v rfl rfl rfl (v_move rfl) ?_
        refine wl_guard rfl rfl rfl (fun g44 => ?_) (fun g44 => ?_)
        ·have g44p := of_decide_eq_false g44
         refine wl_v rfl rfl rfl (v_fb (o2 := 2) fa128_2 rfl rfl) ?_
         refine wl_on' rfl rfl g44 ?_
         refine wl_v rfl rfl rfl (v_load one9 rfl (H2.at (by repeat constructor) rfl)) ?_
         refine wl_on' rfl rfl g44 ?_
         refine wl_v rfl rfl rfl (v_neq0 rfl rfl) ?_
         refine wl_v rfl rfl rfl (v_pick_f rfl g44 rfl) ?_
         refine wl_v rfl rfl rfl (v_move rfl) ?_
         refine wl_guard rfl rfl rfl (fun g49 => ?_) (fun g49 => ?_)
         ·have g49p := of_nd_f g49
          refine wl_v rfl rfl rfl (v_fb (o2 := 3) fa128_3 rfl rfl) ?_
          refine wl_on' rfl rfl g49 ?_
          refine wl_v rfl rfl rfl (v_load one126 rfl (H2.at (by repeat constructor) rfl)) ?_
          refine wl_on' rfl rfl g49 ?_
          refine wl_v rfl rfl rfl (v_len Try.underlying126 rfl) ?_
          refine wl_on' rfl rfl g49 ?_
          refine wl_v rfl rfl rfl (v_gtr rfl rfl) ?_
          refine wl_v rfl rfl rfl (v_pick_f rfl g49 rfl) ?_
          refine wl_nil ?_
          refine wc_cond rfl (fun c4 => ?_) (fun c4 => ?_)
          ·have c4p := of_decide_eq_true c4
           refine wc_seq ?_
           refine wc_region ?_
           refine wl_v rfl rfl rfl (v_assign rfl) ?_
           refine wl_nil ?_
           refine wc_ret ?_
           first
             | exact ⟨_, res1 rfl rfl, congrArg (Value.int .i64) (hp.fin (by omega)), H2.pm (Pm.nil _)⟩
             | exact ⟨_, res1 rfl rfl, congrArg (Value.int .i64) (leftA_few (by omega)).symm, H2.pm (Pm.nil _)⟩
             | exact ⟨_, res1 rfl rfl, congrArg (Value.int .i64) (leftA_node (by unfold nodeOk; omega)).symm, H2.pm (Pm.nil _)⟩
          ·have c4p := of_decide_eq_false c4
           refine wc_skip ?_
           exact ⟨(), (sc rfl (sc rfl (sc rfl (sn _)))), ⟨by unfold nodeOk; omega, H2⟩⟩
         ·have g49p := of_nd_t g49
          refine wl_off rfl rfl g49 rfl ?_
          refine wl_off rfl rfl g49 rfl ?_
          refine wl_off rfl rfl g49 rfl ?_
          refine wl_v rfl rfl rfl (v_pick_t rfl g49 rfl) ?_
          refine wl_nil ?_
          refine wc_cond_t rfl ?_
          refine wc_seq ?_
          refine wc_region ?_
          refine wl_v rfl rfl rfl (v_assign rfl) ?_
          refine wl_nil ?_
          refine wc_ret ?_
          first
            | exact ⟨_, res1 rfl rfl, congrArg (Value.int .i64) (hp.fin (by omega)), H2.pm (Pm.nil _)⟩
            | exact ⟨_, res1 rfl rfl, congrArg (Value.int .i64) (leftA_few (by omega)).symm, H2.pm (Pm.nil _)⟩
            | exact ⟨_, res1 rfl rfl, congrArg (Value.int .i64) (leftA_node (by unfold nodeOk; omega)).symm, H2.pm (Pm.nil _)⟩
        ·have g44p := of_decide_eq_true g44
         refine wl_off rfl rfl g44 rfl ?_
         refine wl_off rfl rfl g44 rfl ?_
         refine wl_v rfl rfl rfl (v_pick_t rfl g44 rfl) ?_
         refine wl_v rfl rfl rfl (v_move rfl) ?_
         refine wl_off rfl rfl rfl rfl ?_
         refine wl_off rfl rfl rfl rfl ?_
         refine wl_off rfl rfl rfl rfl ?_
         refine wl_off rfl rfl rfl rfl ?_
         refine wl_v rfl rfl rfl (v_pick_t rfl rfl rfl) ?_
         refine wl_nil ?_
         refine wc_cond_t rfl ?_
         refine wc_seq ?_
         refine wc_region ?_
         refine wl_v rfl rfl rfl (v_assign rfl) ?_
         refine wl_nil ?_
         refine wc_ret ?_
         first
           | exact ⟨_, res1 rfl rfl, congrArg (Value.int .i64) (hp.fin (by omega)), H2.pm (Pm.nil _)⟩
           | exact ⟨_, res1 rfl rfl, congrArg (Value.int .i64) (leftA_few (by omega)).symm, H2.pm (Pm.nil _)⟩
           | exact ⟨_, res1 rfl rfl, congrArg (Value.int .i64) (leftA_node (by unfold nodeOk; omega)).symm, H2.pm (Pm.nil _)⟩
       ·have g38p := of_decide_eq_true g38
        refine wl_off rfl rfl g38 rfl ?_
        refine wl_off rfl rfl g38 rfl ?_
        refine wl_off rfl rfl g38 rfl ?_
        refine wl_v rfl rfl rfl (v_pick_t rfl g38 rfl) ?_
        refine wl_v rfl rfl rfl (v_move rfl) ?_
        refine wl_off rfl rfl rfl rfl ?_
        refine wl_off rfl rfl rfl rfl ?_
        refine wl_off rfl rfl rfl rfl ?_
        refine wl_v rfl rfl rfl (v_pick_t rfl rfl rfl) ?_
        refine wl_v rfl rfl rfl (v_move rfl) ?_
        refine wl_off rfl rfl rfl rfl ?_
        refine wl_off rfl rfl rfl rfl ?_
        refine wl_off rfl rfl rfl rfl ?_
        refine wl_off rfl rfl rfl rfl ?_
        refine wl_v rfl rfl rfl (v_pick_t rfl rfl rfl) ?_
        refine wl_nil ?_
        refine wc_cond_t rfl ?_
        refine wc_seq ?_
        refine wc_region ?_
        refine wl_v rfl rfl rfl (v_assign rfl) ?_
        refine wl_nil ?_
        refine wc_ret ?_
        first
          | exact ⟨_, res1 rfl rfl, congrArg (Value.int .i64) (hp.fin (by omega)), H2.pm (Pm.nil _)⟩
          | exact ⟨_, res1 rfl rfl, congrArg (Value.int .i64) (leftA_few (by omega)).symm, H2.pm (Pm.nil _)⟩
          | exact ⟨_, res1 rfl rfl, congrArg (Value.int .i64) (leftA_node (by unfold nodeOk; omega)).symm, H2.pm (Pm.nil _)⟩
      ·have c3p := of_decide_eq_false c3
       refine wc_seq ?_
       refine wc_region ?_
       refine wl_v rfl rfl rfl (v_eql rfl rfl) ?_
       refine wl_v rfl rfl rfl (v_assign rfl) ?_
       refine wl_nil ?_
       refine wc_cond rfl (fun c5 => ?_) (fun c5 => ?_)
       ·have c5p := of_decide_eq_true c5
        refine wc_seq ?_
        refine wc_region ?_
        refine wl_v rfl rfl rfl (v_fb (o2 := 2) fa128_2 rfl rfl) ?_
        refine wl_v rfl rfl rfl (v_load one9 rfl (H2.at (by repeat constructor) rfl)) ?_
        refine wl_v rfl rfl rfl (v_lens Try.underlying9 rfl) ?_
        refine wl_v rfl rfl rfl (v_gtr rfl rfl) ?_
        refine wl_v rfl rfl rfl (v_move rfl) ?_
        refine wl_guard rfl rfl rfl (fun g61 => ?_) (fun g61 => ?_)
        ·have g61p := of_decide_eq_false g61
         refine wl_v rfl rfl rfl (v_fb (o2 := 1) fa128_1 rfl rfl) ?_
         refine wl_on' rfl rfl g61 ?_
         refine wl_v rfl rfl rfl (v_load one3 rfl (H2.at (by repeat constructor) rfl)) ?_
         refine wl_on' rfl rfl g61 ?_
         refine wl_v rfl rfl rfl (v_neq rfl rfl) ?_
         refine wl_v rfl rfl rfl (v_pick_f rfl g61 rfl) ?_
         refine wl_v rfl rfl rfl (v_move rfl) ?_
         refine wl_guard rfl rfl rfl (fun g66 => ?_) (fun g66 => ?_)
         ·have g66p := of_nd_f g66
          refine wl_v rfl rfl rfl (v_fb (o2 := 3) fa128_3 rfl rfl) ?_
          refine wl_on' rfl rfl g66 ?_
          refine wl_v rfl rfl rfl (v_load one126 rfl (H2.at (by repeat constructor) rfl)) ?_
          refine wl_on' rfl rfl g66 ?_
          refine wl_v rfl rfl rfl (v_len Try.underlying126 rfl) ?_
          refine wl_on' rfl rfl g66 ?_
          refine wl_v rfl rfl rfl (v_gtr rfl rfl) ?_
          refine wl_v rfl rfl rfl (v_pick_f rfl g66 rfl) ?_
          refine wl_nil ?_
          refine wc_cond rfl (fun c6 => ?_) (fun c6 => ?_)
          ·have c6p := of_decide_eq_true c6
           refine wc_seq ?_
           refine wc_region ?_
           refine wl_v rfl rfl rfl (v_assign rfl) ?_
           refine wl_nil ?_
           refine wc_ret ?_
           first
             | exact ⟨_, res1 rfl rfl, congrArg (Value.int .i64) (hp.fin (by omega)), H2.pm (Pm.nil _)⟩
             | exact ⟨_, res1 rfl rfl, congrArg (Value.int .i64) (leftA_few (by omega)).symm, H2.pm (Pm.nil _)⟩
             | exact ⟨_, res1 rfl rfl, congrArg (Value.int .i64) (leftA_node (by unfold nodeOk; omega)).symm, H2.pm (Pm.nil _)⟩
          ·have c6p := of_decide_eq_false c6
           refine wc_skip ?_
           exact ⟨(), (sc rfl (sc rfl (sc rfl (sn _)))), ⟨by unfold nodeOk; omega, H2⟩⟩
         ·have g66p := of_nd_t g66
          refine wl_off rfl rfl g66 rfl ?_
          refine wl_off rfl rfl g66 rfl ?_
          refine wl_off rfl rfl g66 rfl ?_
          refine wl_v rfl rfl rfl (v_pick_t rfl g66 rfl) ?_
          refine wl_nil ?_
          refine wc_cond_t rfl ?_
          refine wc_seq ?_
          refine wc_region ?_
          refine wl_v rfl rfl rfl (v_assign rfl) ?_
          refine wl_nil ?_
          refine wc_ret ?_
          first
            | exact ⟨_, res1 rfl rfl, congrArg (Value.int .i64) (hp.fin (by omega)), H2.pm (Pm.nil _)⟩
            | exact ⟨_, res1 rfl rfl, congrArg (Value.int .i64) (leftA_few (by omega)).symm, H2.pm (Pm.nil _)⟩
            | exact ⟨_, res1 rfl rfl, congrArg (Value.int .i64) (leftA_node (by unfold nodeOk; omega)).symm, H2.pm (Pm.nil _)⟩
        ·have g61p := of_decide_eq_true g61
         refine wl_off rfl rfl g61 rfl ?_
         refine wl_off rfl rfl g61 rfl ?_
         refine wl_v rfl rfl rfl (v_pick_t rfl g61 rfl) ?_
         refine wl_v rfl rfl rfl (v_move rfl) ?_
         refine wl_off rfl rfl rfl rfl ?_
         refine wl_off rfl rfl rfl rfl ?_
         refine wl_off rfl rfl rfl rfl ?_
         refine wl_off rfl rfl rfl rfl ?_
         refine wl_v rfl rfl rfl (v_pick_t rfl rfl rfl) ?_
         refine wl_nil ?_
         refine wc_cond_t rfl ?_
         refine wc_seq ?_
         refine wc_region ?_
         refine wl_v rfl rfl rfl (v_assign rfl) ?_
         refine wl_nil ?_
         refine wc_ret ?_
         first
           | exact ⟨_, res1 rfl rfl, congrArg (Value.int .i64) (hp.fin (by omega)), H2.pm (Pm.nil _)⟩
           | exact ⟨_, res1 rfl rfl, congrArg (Value.int .i64) (leftA_few (by omega)).symm, H2.pm (Pm.nil _)⟩
           | exact ⟨_, res1 rfl rfl, congrArg (Value.int .i64) (leftA_node (by unfold nodeOk; omega)).symm, H2.pm (Pm.nil _)⟩
       ·have c5p := of_decide_eq_false c5
        refine wc_seq ?_
        refine wc_region ?_
        refine wl_v rfl rfl rfl (v_eql rfl rfl) ?_
        refine wl_v rfl rfl rfl (v_assign rfl) ?_
        refine wl_nil ?_
        refine wc_cond rfl (fun c7 => ?_) (fun c7 => ?_)
        ·have c7p := of_decide_eq_true c7
         refine wc_seq ?_
         refine wc_region ?_
         refine wl_v rfl rfl rfl (v_fb (o2 := 2) fa128_2 rfl rfl) ?_
         refine wl_v rfl rfl rfl (v_load one9 rfl (H2.at (by repeat constructor) rfl)) ?_
         refine wl_v rfl rfl rfl (v_lens Try.underlying9 rfl) ?_
         refine wl_v rfl rfl rfl (v_lss rfl rfl) ?_
         refine wl_v rfl rfl rfl (v_move rfl) ?_
         refine wl_guard rfl rfl rfl (fun g78 => ?_) (fun g78 => ?_)
         ·have g78p := of_decide_eq_false g78
          refine wl_v rfl rfl rfl (v_fb (o2 := 2) fa128_2 rfl rfl) ?_
          refine wl_on' rfl rfl g78 ?_
          refine wl_v rfl rfl rfl (v_load one9 rfl (H2.at (by repeat constructor) rfl)) ?_
          refine wl_on' rfl rfl g78 ?_
          refine wl_v rfl rfl rfl (v_lens Try.underlying9 rfl) ?_
          refine wl_on' rfl rfl g78 ?_
          refine wl_v rfl rfl rfl (v_gtr rfl rfl) ?_
          refine wl_v rfl rfl rfl (v_pick_f rfl g78 rfl) ?_
          refine wl_v rfl rfl rfl (v_move rfl) ?_
          refine wl_guard rfl rfl rfl (fun g84 => ?_) (fun g84 => ?_)
          ·have g84p := of_decide_eq_false g84
           refine wl_v rfl rfl rfl (v_fb (o2 := 1) fa128_1 rfl rfl) ?_
           refine wl_on' rfl rfl g84 ?_
           refine wl_v rfl rfl rfl (v_load one3 rfl (H2.at (by repeat constructor) rfl)) ?_
           refine wl_on' rfl rfl g84 ?_
           refine wl_v rfl rfl rfl (v_neq rfl rfl) ?_
           refine wl_v rfl rfl rfl (v_pick_f rfl g84 rfl) ?_
           refine wl_nil ?_
           refine wc_cond rfl (fun c8 => ?_) (fun c8 => ?_)
           ·have c8p := of_nd_t c8
            refine wc_seq ?_
            refine wc_region ?_
            refine wl_v rfl rfl rfl (v_assign rfl) ?_
            refine wl_nil ?_
            refine wc_ret ?_
            first
              | exact ⟨_, res1 rfl rfl, congrArg (Value.int .i64) (hp.fin (by omega)), H2.pm (Pm.nil _)⟩
              | exact ⟨_, res1 rfl rfl, congrArg (Value.int .i64) (leftA_few (by omega)).symm, H2.pm (Pm.nil _)⟩
              | exact ⟨_, res1 rfl rfl, congrArg (Value.int .i64) (leftA_node (by unfold nodeOk; omega)).symm, H2.pm (Pm.nil _)⟩
           ·have c8p := of_nd_f c8
            refine wc_skip ?_
            exact ⟨(), (sc rfl (sc rfl (sc rfl (sn _)))), ⟨by unfold nodeOk; omega, H2⟩⟩
          ·have g84p := of_decide_eq_true g84
           refine wl_off rfl rfl g84 rfl ?_
           refine wl_off rfl rfl g84 rfl ?_
           refine wl_v rfl rfl rfl (v_pick_t rfl g84 rfl) ?_
           refine wl_nil ?_
           refine wc_cond_t rfl ?_
           refine wc_seq ?_
           refine wc_region ?_
           refine wl_v rfl rfl rfl (v_assign rfl) ?_
           refine wl_nil ?_
           refine wc_ret ?_
           first
             | exact ⟨_, res1 rfl rfl, congrArg (Value.int .i64) (hp.fin (by omega)), H2.pm (Pm.nil _)⟩
             | exact ⟨_, res1 rfl rfl, congrArg (Value.int .i64) (leftA_few (by omega)).symm, H2.pm (Pm.nil _)⟩
             | exact ⟨_, res1 rfl rfl, congrArg (Value.int .i64) (leftA_node (by unfold nodeOk; omega)).symm, H2.pm (Pm.nil _)⟩
         ·have g78p := of_decide_eq_true g78
          refine wl_off rfl rfl g78 rfl ?_
          refine wl_off rfl rfl g78 rfl ?_
          refine wl_off rfl rfl g78 rfl ?_
          refine wl_v rfl rfl rfl (v_pick_t rfl g78 rfl) ?_
          refine wl_v rfl rfl rfl (v_move rfl) ?_
          refine wl_off rfl rfl rfl rfl ?_
          refine wl_off rfl rfl rfl rfl ?_
          refine wl_off rfl rfl rfl rfl ?_
          refine wl_v rfl rfl rfl (v_pick_t rfl rfl rfl) ?_
          refine wl_nil ?_
          refine wc_cond_t rfl ?_
          refine wc_seq ?_
          refine wc_region ?_
          refine wl_v rfl rfl rfl (v_assign rfl) ?_
          refine wl_nil ?_
          refine wc_ret ?_
          first
            | exact ⟨_, res1 rfl rfl, congrArg (Value.int .i64) (hp.fin (by omega)), H2.pm (Pm.nil _)⟩
            | exact ⟨_, res1 rfl rfl, congrArg (Value.int .i64) (leftA_few (by omega)).symm, H2.pm (Pm.nil _)⟩
            | exact ⟨_, res1 rfl rfl, congrArg (Value.int .i64) (leftA_node (by unfold nodeOk; omega)).symm, H2.pm (Pm.nil _)⟩
        ·have c7p := of_decide_eq_false c7
         refine wc_seq ?_
         refine wc_region ?_
         refine wl_v rfl rfl rfl (v_assign rfl) ?_
         refine wl_nil ?_
         refine wc_ret ?_
         first
           | exact ⟨_, res1 rfl rfl, congrArg (Value.int .i64) (hp.fin (by omega)), H2.pm (Pm.nil _)⟩
           | exact ⟨_, res1 rfl rfl, congrArg (Value.int .i64) (leftA_few (by omega)).symm, H2.pm (Pm.nil _)⟩
           | exact ⟨_, res1 rfl rfl, congrArg (Value.int .i64) (leftA_node (by unfold nodeOk; omega)).symm, H2.pm (Pm.nil _)⟩
    ·rintro ⟨⟩ Wm ⟨hok, H⟩
     refine wc_seq ?_
     refine wc_seq ?_
     refine wc_region ?_
     refine wl_v rfl rfl rfl (v_assign rfl) ?_
     refine wl_nil ?_
     refine wc_block ?_
     refine wc_loop (σ := Nat × Int) (fun s => [(1, .int .i64 syms), (2, .int .i64 s.2), (3, .pointer (some ⟨b3, 0, none⟩)), (8, .int .i64 s.1)]) (fun s W => PSr syms t left s.1 s.2 ∧ Holds w [Blk b3 128 [.int .i64 t.x.kind, .int .i64 t.x.at_, .string t.x.name, .slice B t.kids.length k]] W) (fun s => t.kids.length - s.1) (0, left - 1) (sc rfl (sc rfl (sc rfl (sc rfl (sn _))))) ⟨PSr.start hok (by omega), H⟩ ?_
     rintro ⟨i, r⟩ W0 ⟨hp, H⟩
     dsimp only at hp H ⊢
     have hle := hp.le
     have hrg := hp.rng
     refine wc_seq ?_
     refine wc_seq ?_
     refine wc_region ?_
     refine wl_v rfl rfl rfl (v_move rfl) ?_
     refine wl_v rfl rfl rfl (v_fb (o2 := 3) fa128_3 rfl rfl) ?_
     refine wl_v rfl rfl rfl (v_load one126 rfl (H.at (by repeat constructor) rfl)) ?_
     refine wl_v rfl rfl rfl (v_len Try.underlying126 rfl) ?_
     refine wl_v rfl rfl rfl (v_lss rfl rfl) ?_
     refine wl_v rfl rfl rfl (v_move rfl) ?_
     refine wl_guard rfl rfl rfl (fun g94 => ?_) (fun g94 => ?_)
     ·have g94p := of_decide_eq_true g94
      have hsucc := Tr.cnts_succ ac0 t.kids i (by omega)
      have htk := Tr.cnts_take t.kids (i + 1)
      refine wl_v rfl rfl rfl (v_move rfl) ?_
      refine wl_on' rfl rfl g94 ?_
      refine wl_v rfl rfl rfl (v_geq rfl rfl) ?_
      refine wl_v rfl rfl rfl (v_pick_t rfl g94 rfl) ?_
      refine wl_nil ?_
      refine wc_cond rfl (fun c9 => ?_) (fun c9 => ?_)
      ·have c9p := of_decide_eq_true c9
       refine wc_skip ?_
       refine wc_seq ?_
       refine wc_block ?_
       refine wc_region ?_
       refine wl_v rfl rfl rfl (v_fb (o2 := 3) fa128_3 rfl rfl) ?_
       refine wl_v rfl rfl rfl (v_load one126 rfl (H.at (by repeat constructor) rfl)) ?_
       refine wl_v rfl rfl rfl (v_move rfl) ?_
       refine wl_v rfl rfl rfl (v_idx Try.underlying126 sz128 hr.ad rfl rfl (by omega) (by omega)) ?_
       obtain ⟨B104_, k104_, hc104_, hl104_, hr104_⟩ := hr.atTr ac0 (i := i) (by omega)
       refine wl_v rfl rfl rfl (v_loadN (cs := [.int .i64 (t.kids.getD i ac0).x.kind, .int .i64 (t.kids.getD i ac0).x.at_, .string (t.kids.getD i ac0).x.name, .slice B104_ (t.kids.getD i ac0).kids.length k104_]) agg128 rfl rfl (fun q_ u_ hu_ => H.cell (hc104_ q_ u_ hu_))) ?_
       refine wl_v rfl rfl rfl (v_move rfl) ?_
       refine wl_v rfl rfl rfl (v_move rfl) ?_
       refine wl_call en78 rfl rfl (ih _ (getD_mem (z := ac0) (show i < t.kids.length by omega)) _ _ _ r syms hl104_ (hr104_.below H.old) (by omega) (by omega)) ?_
       rintro _ w14 ⟨rfl, Hc⟩
       have H15 := H.call0 Hc
       refine wl_v rfl rfl rfl (v_assign rfl) ?_
       refine wl_nil ?_
       refine wc_region ?_
       refine wl_v rfl rfl rfl (v_move rfl) ?_
       refine wl_v rfl rfl rfl (v_addi rfl rfl (by omega)) ?_
       refine wl_v rfl rfl rfl (v_assign rfl) ?_
       refine wl_nil ?_
       exact ⟨(i + 1, _), (sc rfl (sc rfl (sc rfl (sc rfl (sn _))))), ⟨hp.next (by omega) (by omega), H15⟩, by dsimp only; omega⟩
      ·have c9p := of_decide_eq_false c9
       refine wc_exit ?_
       refine wc_seq ?_
       refine wc_region ?_
       refine wl_v rfl rfl rfl (v_move rfl) ?_
       refine wl_v rfl rfl rfl (v_assign rfl) ?_
       refine wl_nil ?_
       refine wc_ret ?_
       first
         | exact ⟨_, res1 rfl rfl, congrArg (Value.int .i64) (hp.fin (by omega)), H.pm (Pm.nil _)⟩
         | exact ⟨_, res1 rfl rfl, congrArg (Value.int .i64) (leftA_few (by omega)).symm, H.pm (Pm.nil _)⟩
         | exact ⟨_, res1 rfl rfl, congrArg (Value.int .i64) (leftA_node (by unfold nodeOk; omega)).symm, H.pm (Pm.nil _)⟩
     ·have g94p := of_decide_eq_false g94
      refine wl_off rfl rfl g94 rfl ?_
      refine wl_v rfl rfl rfl (v_pick_f rfl g94 rfl) ?_
      refine wl_nil ?_
      refine wc_cond_f rfl ?_
      refine wc_exit ?_
      refine wc_seq ?_
      refine wc_region ?_
      refine wl_v rfl rfl rfl (v_move rfl) ?_
      refine wl_v rfl rfl rfl (v_assign rfl) ?_
      refine wl_nil ?_
      refine wc_ret ?_
      first
        | exact ⟨_, res1 rfl rfl, congrArg (Value.int .i64) (hp.fin (by omega)), H.pm (Pm.nil _)⟩
        | exact ⟨_, res1 rfl rfl, congrArg (Value.int .i64) (leftA_few (by omega)).symm, H.pm (Pm.nil _)⟩
        | exact ⟨_, res1 rfl rfl, congrArg (Value.int .i64) (leftA_node (by unfold nodeOk; omega)).symm, H.pm (Pm.nil _)⟩

theorem rparts_calls : ∀ t : Ac, RPartsOk t := Tr.ind fun x kids ih => fun w B k left syms hk hr hn hcn => rparts_step (t := .mk x kids) hk hr hn hcn ih
end Go.Proofs.Ytkpehkadammppaa.PartsW

/-! Texts that have come up: a map's marks. -/
namespace Go.Proofs.YtkpehkadammppaaFx
open Go Go.RowKit
noncomputable def metF (l : List ByteArray) (y : ByteArray) : Option Bool := if dec (y ∈ l) then some true else none
theorem metF_t {l : List ByteArray} {y : ByteArray} (h : y ∈ l) : metF l y = some true := by rw [metF, dec_t h]; rfl
theorem metF_f {l : List ByteArray} {y : ByteArray} (h : y ∉ l) : metF l y = none := by rw [metF, dec_f h]; rfl
theorem metF_nil : (fun _ => none) = metF [] := by
  funext y
  rw [metF_f (by simp)]
theorem metF_get (l : List ByteArray) (x : ByteArray) : ((metF l x).map Value.bool).getD (.bool false) = .bool (dec (x ∈ l)) := by
  rcases Classical.em (x ∈ l) with h | h
  · rw [metF_t h, dec_t h]; rfl
  · rw [metF_f h, dec_f h]; rfl
theorem metF_add (l : List ByteArray) (x : ByteArray) : (fun y => if y = x then some true else metF l y) = metF (l ++ [x]) := by
  funext y
  by_cases h : y = x
  · rw [if_pos h, metF_t (by simp [h])]
  · rw [if_neg h]
    rcases Classical.em (y ∈ l) with h2 | h2
    · rw [metF_t h2, metF_t (by simp [h2])]
    · rw [metF_f h2, metF_f (by simp [h2, h])]
theorem metF_succ {l : List ByteArray} {i : Nat} (h : i < l.length) : (fun y => if y = l.getD i ByteArray.empty then some true else metF (l.take i) y) = metF (l.take (i + 1)) := by
  rw [metF_add, take_succ' ByteArray.empty h]
theorem dist_iff {l : List ByteArray} {i : Nat} (h : i < l.length) : Dist l i ↔ l.getD i ByteArray.empty ∉ l.take i := by
  constructor
  · intro hd hm
    obtain ⟨k, hk, he⟩ := List.mem_take_iff_getElem.1 hm
    have hk' : k < i := by omega
    refine hd k hk' ?_
    rw [List.getD_eq_getElem?_getD, List.getElem?_eq_getElem (by omega)]
    exact he
  · intro hn k hk he
    refine hn (List.mem_take_iff_getElem.2 ⟨k, by omega, ?_⟩)
    rw [← he, List.getD_eq_getElem?_getD, List.getElem?_eq_getElem (by omega)]
    rfl
end Go.Proofs.YtkpehkadammppaaFx
