/- Whether a table's rows are even, and whether it may be, as the two tell. -/
import Derived.Test.YtkpehkadammppaaProg
import Derived.Test.YtkpehkadammppaaK02
set_option linter.unusedVariables false
set_option linter.unusedSimpArgs false
/-! Whether a table's rows are even, and whether it may be, as the two tell. -/
namespace Go.Proofs.Ytkpehkadammppaa.TabB
open Go Go.RowKit Go.Proofs.YtkpehkadammppaaFx 
theorem agg48 : Agg Try.prog 48 2 := agg_of Try.underlying48 (by kernel_rfl)
theorem en38 : Enters Try.prog 38 := enters Try.func38 (by kernel_rfl) rfl
theorem fa25_0 : FieldAt Try.prog 25 0 0 := field_at (sz := 0) Try.underlying25 rfl (by kernel_rfl) rfl
theorem fa25_1 : FieldAt Try.prog 25 1 1 := field_at (sz := 0) Try.underlying25 rfl (by kernel_rfl) rfl
theorem fa48_0 : FieldAt Try.prog 48 0 0 := field_at (sz := 0) Try.underlying48 rfl (by kernel_rfl) rfl
theorem fa48_1 : FieldAt Try.prog 48 1 1 := field_at (sz := 0) Try.underlying48 rfl (by kernel_rfl) rfl
theorem mixed : Try.prog.follows .mixedOrders = true := by kernel_rfl
theorem one22 : One Try.prog 22 := one_of Try.underlying22 rfl (by kernel_rfl)
theorem one23 : One Try.prog 23 := one_of Try.underlying23 rfl (by kernel_rfl)
theorem one3 : One Try.prog 3 := one_of Try.underlying3 rfl (by kernel_rfl)
theorem one38 : One Try.prog 38 := one_of Try.underlying38 rfl (by kernel_rfl)
theorem one39 : One Try.prog 39 := one_of Try.underlying39 rfl (by kernel_rfl)
theorem sz3 : ∀ W, (sizeOf 3).run Try.prog W = .ok 1 W := size_of (by kernel_rfl)
theorem sz38 : ∀ W, (sizeOf 38).run Try.prog W = .ok 1 W := size_of (by kernel_rfl)
theorem sz39 : ∀ W, (sizeOf 39).run Try.prog W = .ok 1 W := size_of (by kernel_rfl)
theorem sz48 : ∀ W, (sizeOf 48).run Try.prog W = .ok 2 W := size_of (by kernel_rfl)

set_option maxRecDepth 100000 in
theorem even_calls {A B : Option Addr} {ca cb : Nat} {t : Tb} {w : World} (hx : t.rd w A B) (hk : t.ok) :
    Calls Try.prog 32 #[t.val A B ca cb] w fun e w' => ∃ v, e = .returned v ∧ v = .bool (dec (Rect t)) ∧ Holds w [] w' := by
  have hM := hx.m
  have hG := hx.g
  have q1 := hk.m'
  have q2 := hk.g'
  refine calls_of Try.func32 rfl Try.ntmps32 rfl ?_
  have H := Holds.start w
  refine wc_seq ?_
  refine wc_region ?_
  refine wl_box (cs := [_, _]) H rfl rfl rfl ?_
  intro b1 w1 hb1 H2
  refine wl_v rfl rfl rfl (v_assign rfl) ?_
  refine wl_nil ?_
  refine wc_seq ?_
  refine wc_seq ?_
  refine wc_region ?_
  refine wl_v rfl rfl rfl (v_fb (o2 := 0) fa25_0 rfl rfl) ?_
  refine wl_v rfl rfl rfl (v_load one22 rfl (H2.at (by repeat constructor) rfl)) ?_
  refine wl_v rfl rfl rfl (v_len Try.underlying22 rfl) ?_
  refine wl_v rfl rfl rfl (v_eql rfl rfl) ?_
  refine wl_v rfl rfl rfl (v_move rfl) ?_
  refine wl_guard rfl rfl rfl (fun g8 => ?_) (fun g8 => ?_)
  ·have g8p := of_decide_eq_false g8
   have r3 := hk.ml (i := 0) (by omega)
   refine wl_v rfl rfl rfl (v_fb (o2 := 0) fa25_0 rfl rfl) ?_
   refine wl_on' rfl rfl g8 ?_
   refine wl_v rfl rfl rfl (v_load one22 rfl (H2.at (by repeat constructor) rfl)) ?_
   refine wl_on' rfl rfl g8 ?_
   refine wl_v rfl rfl rfl (v_idx Try.underlying22 sz38 hM.ad rfl rfl (by omega) (by omega)) ?_
   refine wl_on' rfl rfl g8 ?_
   obtain ⟨B12, cp12, hc12, hl12, hr12⟩ := hM.atSlN (i := 0) (by omega)
   refine wl_v rfl rfl rfl (v_load one38 rfl (H2.cell (hc12))) ?_
   refine wl_on' rfl rfl g8 ?_
   refine wl_v rfl rfl rfl (v_len Try.underlying38 rfl) ?_
   refine wl_on' rfl rfl g8 ?_
   refine wl_v rfl rfl rfl (v_eql rfl rfl) ?_
   refine wl_v rfl rfl rfl (v_pick_f rfl g8 rfl) ?_
   refine wl_v rfl rfl rfl (v_move rfl) ?_
   refine wl_guard rfl rfl rfl (fun g16 => ?_) (fun g16 => ?_)
   ·have g16p := of_decide_eq_false g16
    have r3 := hk.ml (i := 0) (by omega)
    refine wl_v rfl rfl rfl (v_fb (o2 := 1) fa25_1 rfl rfl) ?_
    refine wl_on' rfl rfl g16 ?_
    refine wl_v rfl rfl rfl (v_load one23 rfl (H2.at (by repeat constructor) rfl)) ?_
    refine wl_on' rfl rfl g16 ?_
    refine wl_v rfl rfl rfl (v_len Try.underlying23 rfl) ?_
    refine wl_on' rfl rfl g16 ?_
    refine wl_v rfl rfl rfl (v_fb (o2 := 0) fa25_0 rfl rfl) ?_
    refine wl_on' rfl rfl g16 ?_
    refine wl_v rfl rfl rfl (v_load one22 rfl (H2.at (by repeat constructor) rfl)) ?_
    refine wl_on' rfl rfl g16 ?_
    refine wl_v rfl rfl rfl (v_len Try.underlying22 rfl) ?_
    refine wl_on' rfl rfl g16 ?_
    refine wl_v rfl rfl rfl (v_neq rfl rfl) ?_
    refine wl_v rfl rfl rfl (v_pick_f rfl g16 rfl) ?_
    refine wl_nil ?_
    refine wc_cond rfl (fun c0 => ?_) (fun c0 => ?_)
    ·have c0p := of_nd_t c0
     refine wc_seq ?_
     refine wc_region ?_
     refine wl_v rfl rfl rfl (v_assign rfl) ?_
     refine wl_nil ?_
     refine wc_ret ?_
     first
       | exact ⟨_, res1 rfl rfl, congrArg Value.bool (dec_t ⟨by omega, by omega, by omega, fun s hs => ha s (by omega)⟩).symm, H2.tail⟩
       | exact ⟨_, res1 rfl rfl, congrArg Value.bool (dec_f fun hr => by obtain ⟨p1, p2, p3, p4⟩ := hr; omega).symm, H2.tail⟩
       | exact ⟨_, res1 rfl rfl, congrArg Value.bool (dec_f fun hr => by obtain ⟨p1, p2, p3, p4⟩ := hr; have := p4 i (by omega); omega).symm, H2.tail⟩
    ·have c0p := of_nd_f c0
     refine wc_skip ?_
     refine wc_seq ?_
     refine wc_seq ?_
     refine wc_region ?_
     refine wl_v rfl rfl rfl (v_fb (o2 := 0) fa25_0 rfl rfl) ?_
     refine wl_v rfl rfl rfl (v_load one22 rfl (H2.at (by repeat constructor) rfl)) ?_
     refine wl_v rfl rfl rfl (v_len Try.underlying22 rfl) ?_
     refine wl_v rfl rfl rfl (v_move rfl) ?_
     refine wl_nil ?_
     refine wc_block ?_
     refine wc_loop (σ := Nat) (fun s => [(1, .pointer (some ⟨b1, 0, none⟩)), (27, .int .i64 t.mv.length), (28, .int .i64 s)]) (fun s W => s ≤ t.mv.length ∧ (∀ s', s' < s → (t.mv.getD s' []).length = (t.mv.getD 0 []).length ∧ (t.go.getD s' []).length = (t.go.getD 0 []).length) ∧ Holds w [Blk b1 25 [.slice A t.mv.length ca, .slice B t.go.length cb]] W) (fun s => t.mv.length - s) 0 (sc rfl (sc rfl (sc rfl (sn _)))) ⟨Nat.zero_le _, upto_zero, H2⟩ ?_
     rintro i W0 ⟨hi, ha, H⟩
     refine wc_seq ?_
     refine wc_region ?_
     refine wl_v rfl rfl rfl (v_lss rfl rfl) ?_
     refine wl_nil ?_
     refine wc_seq ?_
     refine wc_cond rfl (fun c1 => ?_) (fun c1 => ?_)
     ·have c1p := of_decide_eq_true c1
      have r1 := hk.ml (i := i) (by omega)
      have r2 := hk.gl (i := i) (by omega)
      have r3 := hk.ml (i := 0) (by omega)
      have r4 := hk.gl (i := 0) (by omega)
      refine wc_skip ?_
      refine wc_seq ?_
      refine wc_block ?_
      refine wc_seq ?_
      refine wc_region ?_
      refine wl_v rfl rfl rfl (v_move rfl) ?_
      refine wl_v rfl rfl rfl (v_assign rfl) ?_
      refine wl_nil ?_
      refine wc_seq ?_
      refine wc_still mixed (by kernel_rfl) ?_
      have Hd := H.drew
      refine ws_v rfl rfl rfl (v_fb (o2 := 0) fa25_0 rfl rfl) ?_
      refine ws_v rfl rfl rfl (v_load one22 rfl (Hd.at (by repeat constructor) rfl)) ?_
      refine ws_v rfl rfl rfl (v_move rfl) ?_
      refine ws_v rfl rfl rfl (v_idx Try.underlying22 sz38 hM.ad rfl rfl (by omega) (by omega)) ?_
      obtain ⟨B35, cp35, hc35, hl35, hr35⟩ := hM.atSlN (i := i) (by omega)
      refine ws_v rfl rfl rfl (v_load one38 rfl (Hd.cell (hc35))) ?_
      refine ws_v rfl rfl rfl (v_len Try.underlying38 rfl) ?_
      refine ws_v rfl rfl rfl (v_fb (o2 := 0) fa25_0 rfl rfl) ?_
      refine ws_v rfl rfl rfl (v_load one22 rfl (Hd.at (by repeat constructor) rfl)) ?_
      refine ws_v rfl rfl rfl (v_idx Try.underlying22 sz38 hM.ad rfl rfl (by omega) (by omega)) ?_
      obtain ⟨B40, cp40, hc40, hl40, hr40⟩ := hM.atSlN (i := 0) (by omega)
      refine ws_v rfl rfl rfl (v_load one38 rfl (Hd.cell (hc40))) ?_
      refine ws_v rfl rfl rfl (v_len Try.underlying38 rfl) ?_
      refine ws_v rfl rfl rfl (v_neq rfl rfl) ?_
      refine ws_v rfl rfl rfl (v_move rfl) ?_
      refine ws_guard rfl rfl rfl (fun g43 => ?_) (fun g43 => ?_)
      ·have g43p := of_nd_f g43
       refine ws_v rfl rfl rfl (v_fb (o2 := 1) fa25_1 rfl rfl) ?_
       refine ws_on' rfl rfl g43 ?_
       refine ws_v rfl rfl rfl (v_load one23 rfl (Hd.at (by repeat constructor) rfl)) ?_
       refine ws_on' rfl rfl g43 ?_
       refine ws_v rfl rfl rfl (v_move rfl) ?_
       refine ws_on' rfl rfl g43 ?_
       refine ws_v rfl rfl rfl (v_idx Try.underlying23 sz39 hG.ad rfl rfl (by omega) (by omega)) ?_
       refine ws_on' rfl rfl g43 ?_
       obtain ⟨B48, cp48, hc48, hl48, hr48⟩ := hG.atSlN (i := i) (by omega)
       refine ws_v rfl rfl rfl (v_load one39 rfl (Hd.cell (hc48))) ?_
       refine ws_on' rfl rfl g43 ?_
       refine ws_v rfl rfl rfl (v_len Try.underlying39 rfl) ?_
       refine ws_on' rfl rfl g43 ?_
       refine ws_v rfl rfl rfl (v_fb (o2 := 1) fa25_1 rfl rfl) ?_
       refine ws_on' rfl rfl g43 ?_
       refine ws_v rfl rfl rfl (v_load one23 rfl (Hd.at (by repeat constructor) rfl)) ?_
       refine ws_on' rfl rfl g43 ?_
       refine ws_v rfl rfl rfl (v_idx Try.underlying23 sz39 hG.ad rfl rfl (by omega) (by omega)) ?_
       refine ws_on' rfl rfl g43 ?_
       obtain ⟨B53, cp53, hc53, hl53, hr53⟩ := hG.atSlN (i := 0) (by omega)
       refine ws_v rfl rfl rfl (v_load one39 rfl (Hd.cell (hc53))) ?_
       refine ws_on' rfl rfl g43 ?_
       refine ws_v rfl rfl rfl (v_len Try.underlying39 rfl) ?_
       refine ws_on' rfl rfl g43 ?_
       refine ws_v rfl rfl rfl (v_neq rfl rfl) ?_
       refine ws_v rfl rfl rfl (v_pick_f rfl g43 rfl) ?_
       refine ws_nil ?_
       refine wc_cond rfl (fun c2 => ?_) (fun c2 => ?_)
       ·have c2p := of_nd_t c2
        refine wc_seq ?_
        refine wc_region ?_
        refine wl_v rfl rfl rfl (v_assign rfl) ?_
        refine wl_nil ?_
        refine wc_ret ?_
        first
          | exact ⟨_, res1 rfl rfl, congrArg Value.bool (dec_t ⟨by omega, by omega, by omega, fun s hs => ha s (by omega)⟩).symm, Hd.tail⟩
          | exact ⟨_, res1 rfl rfl, congrArg Value.bool (dec_f fun hr => by obtain ⟨p1, p2, p3, p4⟩ := hr; omega).symm, Hd.tail⟩
          | exact ⟨_, res1 rfl rfl, congrArg Value.bool (dec_f fun hr => by obtain ⟨p1, p2, p3, p4⟩ := hr; have := p4 i (by omega); omega).symm, Hd.tail⟩
       ·have c2p := of_nd_f c2
        refine wc_skip ?_
        refine wc_region ?_
        refine wl_v rfl rfl rfl (v_addi rfl rfl (by omega)) ?_
        refine wl_v rfl rfl rfl (v_move rfl) ?_
        refine wl_nil ?_
        exact ⟨i + 1, (sc rfl (sc rfl (sc rfl (sn _)))), ⟨by omega, upto_succ ha (by omega), Hd⟩, by omega⟩
      ·have g43p := of_nd_t g43
       refine ws_off rfl rfl g43 rfl ?_
       refine ws_off rfl rfl g43 rfl ?_
       refine ws_off rfl rfl g43 rfl ?_
       refine ws_off rfl rfl g43 rfl ?_
       refine ws_off rfl rfl g43 rfl ?_
       refine ws_off rfl rfl g43 rfl ?_
       refine ws_off rfl rfl g43 rfl ?_
       refine ws_off rfl rfl g43 rfl ?_
       refine ws_off rfl rfl g43 rfl ?_
       refine ws_off rfl rfl g43 rfl ?_
       refine ws_off rfl rfl g43 rfl ?_
       refine ws_v rfl rfl rfl (v_pick_t rfl g43 rfl) ?_
       refine ws_nil ?_
       refine wc_cond_t rfl ?_
       refine wc_seq ?_
       refine wc_region ?_
       refine wl_v rfl rfl rfl (v_assign rfl) ?_
       refine wl_nil ?_
       refine wc_ret ?_
       first
         | exact ⟨_, res1 rfl rfl, congrArg Value.bool (dec_t ⟨by omega, by omega, by omega, fun s hs => ha s (by omega)⟩).symm, Hd.tail⟩
         | exact ⟨_, res1 rfl rfl, congrArg Value.bool (dec_f fun hr => by obtain ⟨p1, p2, p3, p4⟩ := hr; omega).symm, Hd.tail⟩
         | exact ⟨_, res1 rfl rfl, congrArg Value.bool (dec_f fun hr => by obtain ⟨p1, p2, p3, p4⟩ := hr; have := p4 i (by omega); omega).symm, Hd.tail⟩
     ·have c1p := of_decide_eq_false c1
      refine wc_exit ?_
      refine wc_seq ?_
      refine wc_region ?_
      refine wl_v rfl rfl rfl (v_assign rfl) ?_
      refine wl_nil ?_
      refine wc_ret ?_
      first
        | exact ⟨_, res1 rfl rfl, congrArg Value.bool (dec_t ⟨by omega, by omega, by omega, fun s hs => ha s (by omega)⟩).symm, H.tail⟩
        | exact ⟨_, res1 rfl rfl, congrArg Value.bool (dec_f fun hr => by obtain ⟨p1, p2, p3, p4⟩ := hr; omega).symm, H.tail⟩
        | exact ⟨_, res1 rfl rfl, congrArg Value.bool (dec_f fun hr => by obtain ⟨p1, p2, p3, p4⟩ := hr; have := p4 i (by omega); omega).symm, H.tail⟩
   ·have g16p := of_decide_eq_true g16
    refine wl_off rfl rfl g16 rfl ?_
    refine wl_off rfl rfl g16 rfl ?_
    refine wl_off rfl rfl g16 rfl ?_
    refine wl_off rfl rfl g16 rfl ?_
    refine wl_off rfl rfl g16 rfl ?_
    refine wl_off rfl rfl g16 rfl ?_
    refine wl_v rfl rfl rfl (v_pick_t rfl g16 rfl) ?_
    refine wl_nil ?_
    refine wc_cond_t rfl ?_
    refine wc_seq ?_
    refine wc_region ?_
    refine wl_v rfl rfl rfl (v_assign rfl) ?_
    refine wl_nil ?_
    refine wc_ret ?_
    first
      | exact ⟨_, res1 rfl rfl, congrArg Value.bool (dec_t ⟨by omega, by omega, by omega, fun s hs => ha s (by omega)⟩).symm, H2.tail⟩
      | exact ⟨_, res1 rfl rfl, congrArg Value.bool (dec_f fun hr => by obtain ⟨p1, p2, p3, p4⟩ := hr; omega).symm, H2.tail⟩
      | exact ⟨_, res1 rfl rfl, congrArg Value.bool (dec_f fun hr => by obtain ⟨p1, p2, p3, p4⟩ := hr; have := p4 i (by omega); omega).symm, H2.tail⟩
  ·have g8p := of_decide_eq_true g8
   refine wl_off rfl rfl g8 rfl ?_
   refine wl_off rfl rfl g8 rfl ?_
   refine wl_off rfl rfl g8 rfl ?_
   refine wl_off rfl rfl g8 rfl ?_
   refine wl_off rfl rfl g8 rfl ?_
   refine wl_v rfl rfl rfl (v_pick_t rfl g8 rfl) ?_
   refine wl_v rfl rfl rfl (v_move rfl) ?_
   refine wl_off rfl rfl rfl rfl ?_
   refine wl_off rfl rfl rfl rfl ?_
   refine wl_off rfl rfl rfl rfl ?_
   refine wl_off rfl rfl rfl rfl ?_
   refine wl_off rfl rfl rfl rfl ?_
   refine wl_off rfl rfl rfl rfl ?_
   refine wl_off rfl rfl rfl rfl ?_
   refine wl_v rfl rfl rfl (v_pick_t rfl rfl rfl) ?_
   refine wl_nil ?_
   refine wc_cond_t rfl ?_
   refine wc_seq ?_
   refine wc_region ?_
   refine wl_v rfl rfl rfl (v_assign rfl) ?_
   refine wl_nil ?_
   refine wc_ret ?_
   first
     | exact ⟨_, res1 rfl rfl, congrArg Value.bool (dec_t ⟨by omega, by omega, by omega, fun s hs => ha s (by omega)⟩).symm, H2.tail⟩
     | exact ⟨_, res1 rfl rfl, congrArg Value.bool (dec_f fun hr => by obtain ⟨p1, p2, p3, p4⟩ := hr; omega).symm, H2.tail⟩
     | exact ⟨_, res1 rfl rfl, congrArg Value.bool (dec_f fun hr => by obtain ⟨p1, p2, p3, p4⟩ := hr; have := p4 i (by omega); omega).symm, H2.tail⟩

set_option maxRecDepth 100000 in
theorem rows_calls {A B : Option Addr} {ca cb : Nat} {t : Tb} {w : World} (hx : t.rd w A B) (hk : t.ok) :
    Calls Try.prog 34 #[t.val A B ca cb] w fun e w' => ∃ v, e = .returned v ∧ v = .bool (dec (Rect t)) ∧ Holds w [] w' := by
  have hM := hx.m
  have hG := hx.g
  have q1 := hk.m'
  have q2 := hk.g'
  refine calls_of Try.func34 rfl Try.ntmps34 rfl ?_
  have H := Holds.start w
  refine wc_seq ?_
  refine wc_region ?_
  refine wl_box (cs := [_, _]) H rfl rfl rfl ?_
  intro b1 w1 hb1 H2
  refine wl_v rfl rfl rfl (v_assign rfl) ?_
  refine wl_nil ?_
  refine wc_seq ?_
  refine wc_region ?_
  refine wl_v rfl rfl rfl (v_fb (o2 := 0) fa25_0 rfl rfl) ?_
  refine wl_v rfl rfl rfl (v_load one22 rfl (H2.at (by repeat constructor) rfl)) ?_
  refine wl_v rfl rfl rfl (v_len Try.underlying22 rfl) ?_
  refine wl_v rfl rfl rfl (v_assign rfl) ?_
  refine wl_nil ?_
  refine wc_seq ?_
  refine wc_seq ?_
  refine wc_region ?_
  refine wl_v rfl rfl rfl (v_move rfl) ?_
  refine wl_v rfl rfl rfl (v_lss rfl rfl) ?_
  refine wl_v rfl rfl rfl (v_move rfl) ?_
  refine wl_guard rfl rfl rfl (fun g10 => ?_) (fun g10 => ?_)
  ·have g10p := of_decide_eq_false g10
   have r3 := hk.ml (i := 0) (by omega)
   refine wl_v rfl rfl rfl (v_fb (o2 := 1) fa25_1 rfl rfl) ?_
   refine wl_on' rfl rfl g10 ?_
   refine wl_v rfl rfl rfl (v_load one23 rfl (H2.at (by repeat constructor) rfl)) ?_
   refine wl_on' rfl rfl g10 ?_
   refine wl_v rfl rfl rfl (v_len Try.underlying23 rfl) ?_
   refine wl_on' rfl rfl g10 ?_
   refine wl_v rfl rfl rfl (v_move rfl) ?_
   refine wl_on' rfl rfl g10 ?_
   refine wl_v rfl rfl rfl (v_neq rfl rfl) ?_
   refine wl_v rfl rfl rfl (v_pick_f rfl g10 rfl) ?_
   refine wl_v rfl rfl rfl (v_move rfl) ?_
   refine wl_guard rfl rfl rfl (fun g17 => ?_) (fun g17 => ?_)
   ·have g17p := of_nd_f g17
    have r3 := hk.ml (i := 0) (by omega)
    refine wl_v rfl rfl rfl (v_fb (o2 := 0) fa25_0 rfl rfl) ?_
    refine wl_on' rfl rfl g17 ?_
    refine wl_v rfl rfl rfl (v_load one22 rfl (H2.at (by repeat constructor) rfl)) ?_
    refine wl_on' rfl rfl g17 ?_
    refine wl_v rfl rfl rfl (v_idx Try.underlying22 sz38 hM.ad rfl rfl (by omega) (by omega)) ?_
    refine wl_on' rfl rfl g17 ?_
    obtain ⟨B21, cp21, hc21, hl21, hr21⟩ := hM.atSlN (i := 0) (by omega)
    refine wl_v rfl rfl rfl (v_load one38 rfl (H2.cell (hc21))) ?_
    refine wl_on' rfl rfl g17 ?_
    refine wl_v rfl rfl rfl (v_len Try.underlying38 rfl) ?_
    refine wl_on' rfl rfl g17 ?_
    refine wl_v rfl rfl rfl (v_lss rfl rfl) ?_
    refine wl_v rfl rfl rfl (v_pick_f rfl g17 rfl) ?_
    refine wl_nil ?_
    refine wc_cond rfl (fun c0 => ?_) (fun c0 => ?_)
    ·have c0p := of_decide_eq_true c0
     refine wc_seq ?_
     refine wc_region ?_
     refine wl_v rfl rfl rfl (v_assign rfl) ?_
     refine wl_nil ?_
     refine wc_ret ?_
     first
       | exact ⟨_, res1 rfl rfl, congrArg Value.bool (dec_t ⟨by omega, by omega, by omega, fun s hs => ha s (by omega)⟩).symm, H2.tail⟩
       | exact ⟨_, res1 rfl rfl, congrArg Value.bool (dec_f fun hr => by obtain ⟨p1, p2, p3, p4⟩ := hr; omega).symm, H2.tail⟩
       | exact ⟨_, res1 rfl rfl, congrArg Value.bool (dec_f fun hr => by obtain ⟨p1, p2, p3, p4⟩ := hr; have := p4 i (by omega); omega).symm, H2.tail⟩
    ·have c0p := of_decide_eq_false c0
     refine wc_skip ?_
     refine wc_seq ?_
     refine wc_seq ?_
     refine wc_region ?_
     refine wl_v rfl rfl rfl (v_assign rfl) ?_
     refine wl_nil ?_
     refine wc_block ?_
     refine wc_loop (σ := Nat) (fun s => [(1, .pointer (some ⟨b1, 0, none⟩)), (3, .int .i64 t.mv.length), (4, .int .i64 s)]) (fun s W => s ≤ t.mv.length ∧ (∀ s', s' < s → (t.mv.getD s' []).length = (t.mv.getD 0 []).length ∧ (t.go.getD s' []).length = (t.go.getD 0 []).length) ∧ Holds w [Blk b1 25 [.slice A t.mv.length ca, .slice B t.go.length cb]] W) (fun s => t.mv.length - s) 0 (sc rfl (sc rfl (sc rfl (sn _)))) ⟨Nat.zero_le _, upto_zero, H2⟩ ?_
     rintro i W0 ⟨hi, ha, H⟩
     refine wc_seq ?_
     refine wc_seq ?_
     refine wc_region ?_
     refine wl_v rfl rfl rfl (v_move rfl) ?_
     refine wl_v rfl rfl rfl (v_move rfl) ?_
     refine wl_v rfl rfl rfl (v_lss rfl rfl) ?_
     refine wl_nil ?_
     refine wc_cond rfl (fun c1 => ?_) (fun c1 => ?_)
     ·have c1p := of_decide_eq_true c1
      have r1 := hk.ml (i := i) (by omega)
      have r2 := hk.gl (i := i) (by omega)
      have r3 := hk.ml (i := 0) (by omega)
      have r4 := hk.gl (i := 0) (by omega)
      refine wc_skip ?_
      refine wc_seq ?_
      refine wc_block ?_
      refine wc_seq ?_
      refine wc_still mixed (by kernel_rfl) ?_
      have Hd := H.drew
      refine ws_v rfl rfl rfl (v_fb (o2 := 0) fa25_0 rfl rfl) ?_
      refine ws_v rfl rfl rfl (v_load one22 rfl (Hd.at (by repeat constructor) rfl)) ?_
      refine ws_v rfl rfl rfl (v_move rfl) ?_
      refine ws_v rfl rfl rfl (v_idx Try.underlying22 sz38 hM.ad rfl rfl (by omega) (by omega)) ?_
      obtain ⟨B34, cp34, hc34, hl34, hr34⟩ := hM.atSlN (i := i) (by omega)
      refine ws_v rfl rfl rfl (v_load one38 rfl (Hd.cell (hc34))) ?_
      refine ws_v rfl rfl rfl (v_len Try.underlying38 rfl) ?_
      refine ws_v rfl rfl rfl (v_fb (o2 := 0) fa25_0 rfl rfl) ?_
      refine ws_v rfl rfl rfl (v_load one22 rfl (Hd.at (by repeat constructor) rfl)) ?_
      refine ws_v rfl rfl rfl (v_idx Try.underlying22 sz38 hM.ad rfl rfl (by omega) (by omega)) ?_
      obtain ⟨B39, cp39, hc39, hl39, hr39⟩ := hM.atSlN (i := 0) (by omega)
      refine ws_v rfl rfl rfl (v_load one38 rfl (Hd.cell (hc39))) ?_
      refine ws_v rfl rfl rfl (v_len Try.underlying38 rfl) ?_
      refine ws_v rfl rfl rfl (v_neq rfl rfl) ?_
      refine ws_v rfl rfl rfl (v_move rfl) ?_
      refine ws_guard rfl rfl rfl (fun g42 => ?_) (fun g42 => ?_)
      ·have g42p := of_nd_f g42
       refine ws_v rfl rfl rfl (v_fb (o2 := 1) fa25_1 rfl rfl) ?_
       refine ws_on' rfl rfl g42 ?_
       refine ws_v rfl rfl rfl (v_load one23 rfl (Hd.at (by repeat constructor) rfl)) ?_
       refine ws_on' rfl rfl g42 ?_
       refine ws_v rfl rfl rfl (v_move rfl) ?_
       refine ws_on' rfl rfl g42 ?_
       refine ws_v rfl rfl rfl (v_idx Try.underlying23 sz39 hG.ad rfl rfl (by omega) (by omega)) ?_
       refine ws_on' rfl rfl g42 ?_
       obtain ⟨B47, cp47, hc47, hl47, hr47⟩ := hG.atSlN (i := i) (by omega)
       refine ws_v rfl rfl rfl (v_load one39 rfl (Hd.cell (hc47))) ?_
       refine ws_on' rfl rfl g42 ?_
       refine ws_v rfl rfl rfl (v_len Try.underlying39 rfl) ?_
       refine ws_on' rfl rfl g42 ?_
       refine ws_v rfl rfl rfl (v_fb (o2 := 1) fa25_1 rfl rfl) ?_
       refine ws_on' rfl rfl g42 ?_
       refine ws_v rfl rfl rfl (v_load one23 rfl (Hd.at (by repeat constructor) rfl)) ?_
       refine ws_on' rfl rfl g42 ?_
       refine ws_v rfl rfl rfl (v_idx Try.underlying23 sz39 hG.ad rfl rfl (by omega) (by omega)) ?_
       refine ws_on' rfl rfl g42 ?_
       obtain ⟨B52, cp52, hc52, hl52, hr52⟩ := hG.atSlN (i := 0) (by omega)
       refine ws_v rfl rfl rfl (v_load one39 rfl (Hd.cell (hc52))) ?_
       refine ws_on' rfl rfl g42 ?_
       refine ws_v rfl rfl rfl (v_len Try.underlying39 rfl) ?_
       refine ws_on' rfl rfl g42 ?_
       refine ws_v rfl rfl rfl (v_neq rfl rfl) ?_
       refine ws_v rfl rfl rfl (v_pick_f rfl g42 rfl) ?_
       refine ws_nil ?_
       refine wc_cond rfl (fun c2 => ?_) (fun c2 => ?_)
       ·have c2p := of_nd_t c2
        refine wc_seq ?_
        refine wc_region ?_
        refine wl_v rfl rfl rfl (v_assign rfl) ?_
        refine wl_nil ?_
        refine wc_ret ?_
        first
          | exact ⟨_, res1 rfl rfl, congrArg Value.bool (dec_t ⟨by omega, by omega, by omega, fun s hs => ha s (by omega)⟩).symm, Hd.tail⟩
          | exact ⟨_, res1 rfl rfl, congrArg Value.bool (dec_f fun hr => by obtain ⟨p1, p2, p3, p4⟩ := hr; omega).symm, Hd.tail⟩
          | exact ⟨_, res1 rfl rfl, congrArg Value.bool (dec_f fun hr => by obtain ⟨p1, p2, p3, p4⟩ := hr; have := p4 i (by omega); omega).symm, Hd.tail⟩
       ·have c2p := of_nd_f c2
        refine wc_skip ?_
        refine wc_region ?_
        refine wl_v rfl rfl rfl (v_move rfl) ?_
        refine wl_v rfl rfl rfl (v_addi rfl rfl (by omega)) ?_
        refine wl_v rfl rfl rfl (v_assign rfl) ?_
        refine wl_nil ?_
        exact ⟨i + 1, (sc rfl (sc rfl (sc rfl (sn _)))), ⟨by omega, upto_succ ha (by omega), Hd⟩, by omega⟩
      ·have g42p := of_nd_t g42
       refine ws_off rfl rfl g42 rfl ?_
       refine ws_off rfl rfl g42 rfl ?_
       refine ws_off rfl rfl g42 rfl ?_
       refine ws_off rfl rfl g42 rfl ?_
       refine ws_off rfl rfl g42 rfl ?_
       refine ws_off rfl rfl g42 rfl ?_
       refine ws_off rfl rfl g42 rfl ?_
       refine ws_off rfl rfl g42 rfl ?_
       refine ws_off rfl rfl g42 rfl ?_
       refine ws_off rfl rfl g42 rfl ?_
       refine ws_off rfl rfl g42 rfl ?_
       refine ws_v rfl rfl rfl (v_pick_t rfl g42 rfl) ?_
       refine ws_nil ?_
       refine wc_cond_t rfl ?_
       refine wc_seq ?_
       refine wc_region ?_
       refine wl_v rfl rfl rfl (v_assign rfl) ?_
       refine wl_nil ?_
       refine wc_ret ?_
       first
         | exact ⟨_, res1 rfl rfl, congrArg Value.bool (dec_t ⟨by omega, by omega, by omega, fun s hs => ha s (by omega)⟩).symm, Hd.tail⟩
         | exact ⟨_, res1 rfl rfl, congrArg Value.bool (dec_f fun hr => by obtain ⟨p1, p2, p3, p4⟩ := hr; omega).symm, Hd.tail⟩
         | exact ⟨_, res1 rfl rfl, congrArg Value.bool (dec_f fun hr => by obtain ⟨p1, p2, p3, p4⟩ := hr; have := p4 i (by omega); omega).symm, Hd.tail⟩
     ·have c1p := of_decide_eq_false c1
      refine wc_exit ?_
      refine wc_seq ?_
      refine wc_region ?_
      refine wl_v rfl rfl rfl (v_assign rfl) ?_
      refine wl_nil ?_
      refine wc_ret ?_
      first
        | exact ⟨_, res1 rfl rfl, congrArg Value.bool (dec_t ⟨by omega, by omega, by omega, fun s hs => ha s (by omega)⟩).symm, H.tail⟩
        | exact ⟨_, res1 rfl rfl, congrArg Value.bool (dec_f fun hr => by obtain ⟨p1, p2, p3, p4⟩ := hr; omega).symm, H.tail⟩
        | exact ⟨_, res1 rfl rfl, congrArg Value.bool (dec_f fun hr => by obtain ⟨p1, p2, p3, p4⟩ := hr; have := p4 i (by omega); omega).symm, H.tail⟩
   ·have g17p := of_nd_t g17
    refine wl_off rfl rfl g17 rfl ?_
    refine wl_off rfl rfl g17 rfl ?_
    refine wl_off rfl rfl g17 rfl ?_
    refine wl_off rfl rfl g17 rfl ?_
    refine wl_off rfl rfl g17 rfl ?_
    refine wl_v rfl rfl rfl (v_pick_t rfl g17 rfl) ?_
    refine wl_nil ?_
    refine wc_cond_t rfl ?_
    refine wc_seq ?_
    refine wc_region ?_
    refine wl_v rfl rfl rfl (v_assign rfl) ?_
    refine wl_nil ?_
    refine wc_ret ?_
    first
      | exact ⟨_, res1 rfl rfl, congrArg Value.bool (dec_t ⟨by omega, by omega, by omega, fun s hs => ha s (by omega)⟩).symm, H2.tail⟩
      | exact ⟨_, res1 rfl rfl, congrArg Value.bool (dec_f fun hr => by obtain ⟨p1, p2, p3, p4⟩ := hr; omega).symm, H2.tail⟩
      | exact ⟨_, res1 rfl rfl, congrArg Value.bool (dec_f fun hr => by obtain ⟨p1, p2, p3, p4⟩ := hr; have := p4 i (by omega); omega).symm, H2.tail⟩
  ·have g10p := of_decide_eq_true g10
   refine wl_off rfl rfl g10 rfl ?_
   refine wl_off rfl rfl g10 rfl ?_
   refine wl_off rfl rfl g10 rfl ?_
   refine wl_off rfl rfl g10 rfl ?_
   refine wl_v rfl rfl rfl (v_pick_t rfl g10 rfl) ?_
   refine wl_v rfl rfl rfl (v_move rfl) ?_
   refine wl_off rfl rfl rfl rfl ?_
   refine wl_off rfl rfl rfl rfl ?_
   refine wl_off rfl rfl rfl rfl ?_
   refine wl_off rfl rfl rfl rfl ?_
   refine wl_off rfl rfl rfl rfl ?_
   refine wl_off rfl rfl rfl rfl ?_
   refine wl_v rfl rfl rfl (v_pick_t rfl rfl rfl) ?_
   refine wl_nil ?_
   refine wc_cond_t rfl ?_
   refine wc_seq ?_
   refine wc_region ?_
   refine wl_v rfl rfl rfl (v_assign rfl) ?_
   refine wl_nil ?_
   refine wc_ret ?_
   first
     | exact ⟨_, res1 rfl rfl, congrArg Value.bool (dec_t ⟨by omega, by omega, by omega, fun s hs => ha s (by omega)⟩).symm, H2.tail⟩
     | exact ⟨_, res1 rfl rfl, congrArg Value.bool (dec_f fun hr => by obtain ⟨p1, p2, p3, p4⟩ := hr; omega).symm, H2.tail⟩
     | exact ⟨_, res1 rfl rfl, congrArg Value.bool (dec_f fun hr => by obtain ⟨p1, p2, p3, p4⟩ := hr; have := p4 i (by omega); omega).symm, H2.tail⟩

set_option maxRecDepth 100000 in
theorem rmove_calls {m : Mv} {a b : Int} {w : World} :
    Calls Try.prog 38 #[.agg (fMv.enc m).toArray, .int .i64 a, .int .i64 b] w fun e w' => ∃ v, e = .returned v ∧ v = .bool (dec (mvOk m a b)) ∧ Holds w [] w' := by
  refine calls_of Try.func38 rfl Try.ntmps38 rfl ?_
  have H := Holds.start w
  refine wc_seq ?_
  refine wc_region ?_
  refine wl_box (cs := [_, _]) H rfl rfl rfl ?_
  intro b3 w1 hb3 H2
  refine wl_v rfl rfl rfl (v_assign rfl) ?_
  refine wl_nil ?_
  refine wc_seq ?_
  refine wc_seq ?_
  refine wc_region ?_
  refine wl_v rfl rfl rfl (v_fb (o2 := 0) fa48_0 rfl rfl) ?_
  refine wl_v rfl rfl rfl (v_load one3 rfl (H2.at (by repeat constructor) rfl)) ?_
  refine wl_nil ?_
  refine wc_block ?_
  refine wc_seq ?_
  refine wc_region ?_
  refine wl_v rfl rfl rfl (v_eql rfl rfl) ?_
  refine wl_v rfl rfl rfl (v_assign rfl) ?_
  refine wl_nil ?_
  refine wc_cond rfl (fun c0 => ?_) (fun c0 => ?_)
  ·have c0p := of_decide_eq_true c0
   refine wc_seq ?_
   refine wc_region ?_
   refine wl_v rfl rfl rfl (v_fb (o2 := 1) fa48_1 rfl rfl) ?_
   refine wl_v rfl rfl rfl (v_load one3 rfl (H2.at (by repeat constructor) rfl)) ?_
   refine wl_v rfl rfl rfl (v_geq rfl rfl) ?_
   refine wl_v rfl rfl rfl (v_move rfl) ?_
   refine wl_guard rfl rfl rfl (fun g14 => ?_) (fun g14 => ?_)
   ·have g14p := of_decide_eq_true g14
    refine wl_v rfl rfl rfl (v_fb (o2 := 1) fa48_1 rfl rfl) ?_
    refine wl_on' rfl rfl g14 ?_
    refine wl_v rfl rfl rfl (v_load one3 rfl (H2.at (by repeat constructor) rfl)) ?_
    refine wl_on' rfl rfl g14 ?_
    refine wl_v rfl rfl rfl (v_move rfl) ?_
    refine wl_on' rfl rfl g14 ?_
    refine wl_v rfl rfl rfl (v_lss rfl rfl) ?_
    refine wl_v rfl rfl rfl (v_pick_t rfl g14 rfl) ?_
    refine wl_v rfl rfl rfl (v_assign rfl) ?_
    refine wl_nil ?_
    refine wc_ret ?_
    refine ⟨_, res1 rfl rfl, congrArg Value.bool (dec_eq ?_), H2.tail⟩
    unfold mvOk
    first
      | (simp only [decide_eq_true_eq, Bool.false_eq_true, false_iff, true_iff]; omega)
   ·have g14p := of_decide_eq_false g14
    refine wl_off rfl rfl g14 rfl ?_
    refine wl_off rfl rfl g14 rfl ?_
    refine wl_off rfl rfl g14 rfl ?_
    refine wl_v rfl rfl rfl (v_pick_f rfl g14 rfl) ?_
    refine wl_v rfl rfl rfl (v_assign rfl) ?_
    refine wl_nil ?_
    refine wc_ret ?_
    refine ⟨_, res1 rfl rfl, congrArg Value.bool (dec_eq ?_), H2.tail⟩
    unfold mvOk
    first
      | (simp only [decide_eq_true_eq, Bool.false_eq_true, false_iff, true_iff]; omega)
  ·have c0p := of_decide_eq_false c0
   refine wc_seq ?_
   refine wc_region ?_
   refine wl_v rfl rfl rfl (v_eql rfl rfl) ?_
   refine wl_v rfl rfl rfl (v_assign rfl) ?_
   refine wl_nil ?_
   refine wc_cond rfl (fun c1 => ?_) (fun c1 => ?_)
   ·have c1p := of_decide_eq_true c1
    refine wc_seq ?_
    refine wc_region ?_
    refine wl_v rfl rfl rfl (v_fb (o2 := 1) fa48_1 rfl rfl) ?_
    refine wl_v rfl rfl rfl (v_load one3 rfl (H2.at (by repeat constructor) rfl)) ?_
    refine wl_v rfl rfl rfl (v_geq rfl rfl) ?_
    refine wl_v rfl rfl rfl (v_move rfl) ?_
    refine wl_guard rfl rfl rfl (fun g25 => ?_) (fun g25 => ?_)
    ·have g25p := of_decide_eq_true g25
     refine wl_v rfl rfl rfl (v_fb (o2 := 1) fa48_1 rfl rfl) ?_
     refine wl_on' rfl rfl g25 ?_
     refine wl_v rfl rfl rfl (v_load one3 rfl (H2.at (by repeat constructor) rfl)) ?_
     refine wl_on' rfl rfl g25 ?_
     refine wl_v rfl rfl rfl (v_move rfl) ?_
     refine wl_on' rfl rfl g25 ?_
     refine wl_v rfl rfl rfl (v_lss rfl rfl) ?_
     refine wl_v rfl rfl rfl (v_pick_t rfl g25 rfl) ?_
     refine wl_v rfl rfl rfl (v_assign rfl) ?_
     refine wl_nil ?_
     refine wc_ret ?_
     refine ⟨_, res1 rfl rfl, congrArg Value.bool (dec_eq ?_), H2.tail⟩
     unfold mvOk
     first
       | (simp only [decide_eq_true_eq, Bool.false_eq_true, false_iff, true_iff]; omega)
    ·have g25p := of_decide_eq_false g25
     refine wl_off rfl rfl g25 rfl ?_
     refine wl_off rfl rfl g25 rfl ?_
     refine wl_off rfl rfl g25 rfl ?_
     refine wl_v rfl rfl rfl (v_pick_f rfl g25 rfl) ?_
     refine wl_v rfl rfl rfl (v_assign rfl) ?_
     refine wl_nil ?_
     refine wc_ret ?_
     refine ⟨_, res1 rfl rfl, congrArg Value.bool (dec_eq ?_), H2.tail⟩
     unfold mvOk
     first
       | (simp only [decide_eq_true_eq, Bool.false_eq_true, false_iff, true_iff]; omega)
   ·have c1p := of_decide_eq_false c1
    refine wc_seq ?_
    refine wc_seq ?_
    refine wc_region ?_
    refine wl_v rfl rfl rfl (v_eql rfl rfl) ?_
    refine wl_v rfl rfl rfl (v_assign rfl) ?_
    refine wl_nil ?_
    refine wc_cond rfl (fun c2 => ?_) (fun c2 => ?_)
    ·have c2p := of_decide_eq_true c2
     refine wc_skip ?_
     refine wc_cond_y rfl c2 ?_
     refine wc_seq ?_
     refine wc_region ?_
     refine wl_v rfl rfl rfl (v_fb (o2 := 1) fa48_1 rfl rfl) ?_
     refine wl_v rfl rfl rfl (v_load one3 rfl (H2.at (by repeat constructor) rfl)) ?_
     refine wl_v rfl rfl rfl (v_eql rfl rfl) ?_
     refine wl_v rfl rfl rfl (v_assign rfl) ?_
     refine wl_nil ?_
     refine wc_ret ?_
     refine ⟨_, res1 rfl rfl, congrArg Value.bool (dec_eq ?_), H2.tail⟩
     unfold mvOk
     first
       | (simp only [decide_eq_true_eq, Bool.false_eq_true, false_iff, true_iff]; omega)
    ·have c2p := of_decide_eq_false c2
     refine wc_region ?_
     refine wl_v rfl rfl rfl (v_eql rfl rfl) ?_
     refine wl_v rfl rfl rfl (v_assign rfl) ?_
     refine wl_nil ?_
     refine wc_cond rfl (fun c3 => ?_) (fun c3 => ?_)
     ·have c3p := of_decide_eq_true c3
      refine wc_seq ?_
      refine wc_region ?_
      refine wl_v rfl rfl rfl (v_fb (o2 := 1) fa48_1 rfl rfl) ?_
      refine wl_v rfl rfl rfl (v_load one3 rfl (H2.at (by repeat constructor) rfl)) ?_
      refine wl_v rfl rfl rfl (v_eql rfl rfl) ?_
      refine wl_v rfl rfl rfl (v_assign rfl) ?_
      refine wl_nil ?_
      refine wc_ret ?_
      refine ⟨_, res1 rfl rfl, congrArg Value.bool (dec_eq ?_), H2.tail⟩
      unfold mvOk
      first
        | (simp only [decide_eq_true_eq, Bool.false_eq_true, false_iff, true_iff]; omega)
     ·have c3p := of_decide_eq_false c3
      refine wc_skip ?_
      refine wc_seq ?_
      refine wc_region ?_
      refine wl_v rfl rfl rfl (v_assign rfl) ?_
      refine wl_nil ?_
      refine wc_ret ?_
      refine ⟨_, res1 rfl rfl, congrArg Value.bool (dec_eq ?_), H2.tail⟩
      unfold mvOk
      first
        | (simp only [decide_eq_true_eq, Bool.false_eq_true, false_iff, true_iff]; omega)

set_option maxRecDepth 100000 in
theorem rcheck_calls {A B : Option Addr} {ca cb : Nat} {t : Tb} {k r p : Int} {w : World} (hx : t.rd w A B) (hk : t.ok) (ik : I64 k) (ir : I64 r) (ip : I64 p) :
    Calls Try.prog 13 #[t.val A B ca cb, .int .i64 k, .int .i64 r, .int .i64 p] w fun e w' => ∃ v, e = .returned v ∧ v = .int .i64 (checkF t k r p) ∧ Holds w [] w' := by
  have hM := hx.m
  have hG := hx.g
  have q1 := hk.m'
  have q2 := hk.g'
  unfold I64 at ik ir ip
  refine calls_of Try.func13 rfl Try.ntmps13 rfl ?_
  have H := Holds.start w
  refine wc_seq ?_
  refine wc_region ?_
  refine wl_box (cs := [_, _]) H rfl rfl rfl ?_
  intro b4 w1 hb4 H2
  refine wl_v rfl rfl rfl (v_assign rfl) ?_
  refine wl_nil ?_
  refine wc_seq ?_
  refine wc_seq ?_
  refine wc_region ?_
  refine wl_v rfl rfl rfl (v_move rfl) ?_
  refine wl_v rfl rfl rfl (v_lss rfl rfl) ?_
  refine wl_v rfl rfl rfl (v_move rfl) ?_
  refine wl_guard rfl rfl rfl (fun g15 => ?_) (fun g15 => ?_)
  ·have g15p := of_decide_eq_false g15
   refine wl_v rfl rfl rfl (v_move rfl) ?_
   refine wl_on' rfl rfl g15 ?_
   refine wl_v rfl rfl rfl (v_lss rfl rfl) ?_
   refine wl_v rfl rfl rfl (v_pick_f rfl g15 rfl) ?_
   refine wl_v rfl rfl rfl (v_move rfl) ?_
   refine wl_guard rfl rfl rfl (fun g19 => ?_) (fun g19 => ?_)
   ·have g19p := of_decide_eq_false g19
    refine wl_v rfl rfl rfl (v_move rfl) ?_
    refine wl_on' rfl rfl g19 ?_
    refine wl_v rfl rfl rfl (v_lss rfl rfl) ?_
    refine wl_v rfl rfl rfl (v_pick_f rfl g19 rfl) ?_
    refine wl_nil ?_
    refine wc_cond rfl (fun c0 => ?_) (fun c0 => ?_)
    ·have c0p := of_decide_eq_true c0
     refine wc_seq ?_
     refine wc_region ?_
     refine wl_v rfl rfl rfl (v_assign rfl) ?_
     refine wl_nil ?_
     refine wc_ret ?_
     first
       | exact ⟨_, res1 rfl rfl, congrArg (Value.int .i64) (checkF_arg (by omega)).symm, H2.tail⟩
       | exact ⟨_, res1 rfl rfl, congrArg (Value.int .i64) (checkF_ok (by omega) ⟨by omega, by omega, by omega, fun s hs => ha s (by omega)⟩).symm, H2.tail⟩
       | exact ⟨_, res1 rfl rfl, congrArg (Value.int .i64) (checkF_bad (by omega) fun hg => by obtain ⟨p1, p2, p3, p4⟩ := hg; omega).symm, H2.tail⟩
       | exact ⟨_, res1 rfl rfl, congrArg (Value.int .i64) (checkF_bad (by omega) fun hg => by obtain ⟨p5, p6, p7, p8⟩ := hg.2.2.2 i (by omega); omega).symm, H2.tail⟩
       | exact ⟨_, res1 rfl rfl, congrArg (Value.int .i64) (checkF_bad (by omega) fun hg => by obtain ⟨p5, p6, p7, p8⟩ := hg.2.2.2 i (by omega); have h5 := of_ndec c5p; exact h5 (p7 j (by omega))).symm, H2.tail⟩
       | exact ⟨_, res1 rfl rfl, congrArg (Value.int .i64) (checkF_bad (by omega) fun hg => by obtain ⟨p5, p6, p7, p8⟩ := hg.2.2.2 i (by omega); have h5 := p8 j (by omega); unfold goOk at h5; omega).symm, H2.tail⟩
    ·have c0p := of_decide_eq_false c0
     refine wc_skip ?_
     refine wc_seq ?_
     refine wc_region ?_
     refine wl_v rfl rfl rfl (v_fb (o2 := 0) fa25_0 rfl rfl) ?_
     refine wl_v rfl rfl rfl (v_load one22 rfl (H2.at (by repeat constructor) rfl)) ?_
     refine wl_v rfl rfl rfl (v_len Try.underlying22 rfl) ?_
     refine wl_v rfl rfl rfl (v_assign rfl) ?_
     refine wl_nil ?_
     refine wc_seq ?_
     refine wc_seq ?_
     refine wc_region ?_
     refine wl_v rfl rfl rfl (v_move rfl) ?_
     refine wl_v rfl rfl rfl (v_lss rfl rfl) ?_
     refine wl_v rfl rfl rfl (v_move rfl) ?_
     refine wl_guard rfl rfl rfl (fun g28 => ?_) (fun g28 => ?_)
     ·have g28p := of_decide_eq_false g28
      refine wl_v rfl rfl rfl (v_move rfl) ?_
      refine wl_on' rfl rfl g28 ?_
      refine wl_v rfl rfl rfl (v_gtr rfl rfl) ?_
      refine wl_v rfl rfl rfl (v_pick_f rfl g28 rfl) ?_
      refine wl_v rfl rfl rfl (v_move rfl) ?_
      refine wl_guard rfl rfl rfl (fun g32 => ?_) (fun g32 => ?_)
      ·have g32p := of_decide_eq_false g32
       refine wl_v rfl rfl rfl (v_fb (o2 := 1) fa25_1 rfl rfl) ?_
       refine wl_on' rfl rfl g32 ?_
       refine wl_v rfl rfl rfl (v_load one23 rfl (H2.at (by repeat constructor) rfl)) ?_
       refine wl_on' rfl rfl g32 ?_
       refine wl_v rfl rfl rfl (v_len Try.underlying23 rfl) ?_
       refine wl_on' rfl rfl g32 ?_
       refine wl_v rfl rfl rfl (v_move rfl) ?_
       refine wl_on' rfl rfl g32 ?_
       refine wl_v rfl rfl rfl (v_neq rfl rfl) ?_
       refine wl_v rfl rfl rfl (v_pick_f rfl g32 rfl) ?_
       refine wl_nil ?_
       refine wc_cond rfl (fun c1 => ?_) (fun c1 => ?_)
       ·have c1p := of_nd_t c1
        refine wc_seq ?_
        refine wc_region ?_
        refine wl_v rfl rfl rfl (v_assign rfl) ?_
        refine wl_nil ?_
        refine wc_ret ?_
        first
          | exact ⟨_, res1 rfl rfl, congrArg (Value.int .i64) (checkF_arg (by omega)).symm, H2.tail⟩
          | exact ⟨_, res1 rfl rfl, congrArg (Value.int .i64) (checkF_ok (by omega) ⟨by omega, by omega, by omega, fun s hs => ha s (by omega)⟩).symm, H2.tail⟩
          | exact ⟨_, res1 rfl rfl, congrArg (Value.int .i64) (checkF_bad (by omega) fun hg => by obtain ⟨p1, p2, p3, p4⟩ := hg; omega).symm, H2.tail⟩
          | exact ⟨_, res1 rfl rfl, congrArg (Value.int .i64) (checkF_bad (by omega) fun hg => by obtain ⟨p5, p6, p7, p8⟩ := hg.2.2.2 i (by omega); omega).symm, H2.tail⟩
          | exact ⟨_, res1 rfl rfl, congrArg (Value.int .i64) (checkF_bad (by omega) fun hg => by obtain ⟨p5, p6, p7, p8⟩ := hg.2.2.2 i (by omega); have h5 := of_ndec c5p; exact h5 (p7 j (by omega))).symm, H2.tail⟩
          | exact ⟨_, res1 rfl rfl, congrArg (Value.int .i64) (checkF_bad (by omega) fun hg => by obtain ⟨p5, p6, p7, p8⟩ := hg.2.2.2 i (by omega); have h5 := p8 j (by omega); unfold goOk at h5; omega).symm, H2.tail⟩
       ·have c1p := of_nd_f c1
        refine wc_skip ?_
        refine wc_seq ?_
        refine wc_seq ?_
        refine wc_region ?_
        refine wl_v rfl rfl rfl (v_assign rfl) ?_
        refine wl_nil ?_
        refine wc_block ?_
        refine wc_loop (σ := Nat) (fun s => [(1, .int .i64 k), (2, .int .i64 r), (3, .int .i64 p), (4, .pointer (some ⟨b4, 0, none⟩)), (9, .int .i64 t.mv.length), (10, .int .i64 s)]) (fun s W => s ≤ t.mv.length ∧ (∀ s', s' < s → rowOk t k r p s') ∧ Holds w [Blk b4 25 [.slice A t.mv.length ca, .slice B t.go.length cb]] W) (fun s => t.mv.length - s) 0 (sc rfl (sc rfl (sc rfl (sc rfl (sc rfl (sc rfl (sn _))))))) ⟨Nat.zero_le _, upto_zero, H2⟩ ?_
        rintro i W0 ⟨hi, ha, H⟩
        refine wc_seq ?_
        refine wc_seq ?_
        refine wc_region ?_
        refine wl_v rfl rfl rfl (v_move rfl) ?_
        refine wl_v rfl rfl rfl (v_move rfl) ?_
        refine wl_v rfl rfl rfl (v_lss rfl rfl) ?_
        refine wl_nil ?_
        refine wc_cond rfl (fun c2 => ?_) (fun c2 => ?_)
        ·have c2p := of_decide_eq_true c2
         have r1 := hk.ml (i := i) (by omega)
         have r2 := hk.gl (i := i) (by omega)
         refine wc_skip ?_
         refine wc_seq ?_
         refine wc_block ?_
         refine wc_seq ?_
         refine wc_seq ?_
         refine wc_region ?_
         refine wl_v rfl rfl rfl (v_fb (o2 := 0) fa25_0 rfl rfl) ?_
         refine wl_v rfl rfl rfl (v_load one22 rfl (H.at (by repeat constructor) rfl)) ?_
         refine wl_v rfl rfl rfl (v_move rfl) ?_
         refine wl_v rfl rfl rfl (v_idx Try.underlying22 sz38 hM.ad rfl rfl (by omega) (by omega)) ?_
         obtain ⟨B48, cp48, hc48, hl48, hr48⟩ := hM.atSlN (i := i) (by omega)
         refine wl_v rfl rfl rfl (v_load one38 rfl (H.cell (hc48))) ?_
         refine wl_v rfl rfl rfl (v_len Try.underlying38 rfl) ?_
         refine wl_v rfl rfl rfl (v_move rfl) ?_
         refine wl_v rfl rfl rfl (v_neq rfl rfl) ?_
         refine wl_v rfl rfl rfl (v_move rfl) ?_
         refine wl_guard rfl rfl rfl (fun g52 => ?_) (fun g52 => ?_)
         ·have g52p := of_nd_f g52
          refine wl_v rfl rfl rfl (v_fb (o2 := 1) fa25_1 rfl rfl) ?_
          refine wl_on' rfl rfl g52 ?_
          refine wl_v rfl rfl rfl (v_load one23 rfl (H.at (by repeat constructor) rfl)) ?_
          refine wl_on' rfl rfl g52 ?_
          refine wl_v rfl rfl rfl (v_move rfl) ?_
          refine wl_on' rfl rfl g52 ?_
          refine wl_v rfl rfl rfl (v_idx Try.underlying23 sz39 hG.ad rfl rfl (by omega) (by omega)) ?_
          refine wl_on' rfl rfl g52 ?_
          obtain ⟨B57, cp57, hc57, hl57, hr57⟩ := hG.atSlN (i := i) (by omega)
          refine wl_v rfl rfl rfl (v_load one39 rfl (H.cell (hc57))) ?_
          refine wl_on' rfl rfl g52 ?_
          refine wl_v rfl rfl rfl (v_len Try.underlying39 rfl) ?_
          refine wl_on' rfl rfl g52 ?_
          refine wl_v rfl rfl rfl (v_move rfl) ?_
          refine wl_on' rfl rfl g52 ?_
          refine wl_v rfl rfl rfl (v_neq rfl rfl) ?_
          refine wl_v rfl rfl rfl (v_pick_f rfl g52 rfl) ?_
          refine wl_nil ?_
          refine wc_cond rfl (fun c3 => ?_) (fun c3 => ?_)
          ·have c3p := of_nd_t c3
           refine wc_seq ?_
           refine wc_region ?_
           refine wl_v rfl rfl rfl (v_assign rfl) ?_
           refine wl_nil ?_
           refine wc_ret ?_
           first
             | exact ⟨_, res1 rfl rfl, congrArg (Value.int .i64) (checkF_arg (by omega)).symm, H.tail⟩
             | exact ⟨_, res1 rfl rfl, congrArg (Value.int .i64) (checkF_ok (by omega) ⟨by omega, by omega, by omega, fun s hs => ha s (by omega)⟩).symm, H.tail⟩
             | exact ⟨_, res1 rfl rfl, congrArg (Value.int .i64) (checkF_bad (by omega) fun hg => by obtain ⟨p1, p2, p3, p4⟩ := hg; omega).symm, H.tail⟩
             | exact ⟨_, res1 rfl rfl, congrArg (Value.int .i64) (checkF_bad (by omega) fun hg => by obtain ⟨p5, p6, p7, p8⟩ := hg.2.2.2 i (by omega); omega).symm, H.tail⟩
             | exact ⟨_, res1 rfl rfl, congrArg (Value.int .i64) (checkF_bad (by omega) fun hg => by obtain ⟨p5, p6, p7, p8⟩ := hg.2.2.2 i (by omega); have h5 := of_ndec c5p; exact h5 (p7 j (by omega))).symm, H.tail⟩
             | exact ⟨_, res1 rfl rfl, congrArg (Value.int .i64) (checkF_bad (by omega) fun hg => by obtain ⟨p5, p6, p7, p8⟩ := hg.2.2.2 i (by omega); have h5 := p8 j (by omega); unfold goOk at h5; omega).symm, H.tail⟩
          ·have c3p := of_nd_f c3
           have e1 : ((t.mv.getD i []).length : Int) = k := by omega
           have e2 : ((t.go.getD i []).length : Int) = r := by omega
           refine wc_skip ?_
           refine wc_seq ?_
           refine wc_seq ?_
           refine wc_region ?_
           refine wl_v rfl rfl rfl (v_assign rfl) ?_
           refine wl_nil ?_
           refine wc_block ?_
           refine wc_loop (σ := Nat) (fun s => [(1, .int .i64 k), (2, .int .i64 r), (3, .int .i64 p), (4, .pointer (some ⟨b4, 0, none⟩)), (9, .int .i64 t.mv.length), (10, .int .i64 i), (11, .int .i64 s)]) (fun s W => s ≤ (t.mv.getD i []).length ∧ (∀ j, j < s → mvOk ((t.mv.getD i []).getD j mv0) t.mv.length p) ∧ Holds w [Blk b4 25 [.slice A t.mv.length ca, .slice B t.go.length cb]] W) (fun s => (t.mv.getD i []).length - s) 0 (sc rfl (sc rfl (sc rfl (sc rfl (sc rfl (sc rfl (sc rfl (sn _)))))))) ⟨Nat.zero_le _, upto_zero, H⟩ ?_
           rintro j W1 ⟨hj, ha2, H⟩
           refine wc_seq ?_
           refine wc_seq ?_
           refine wc_region ?_
           refine wl_v rfl rfl rfl (v_move rfl) ?_
           refine wl_v rfl rfl rfl (v_move rfl) ?_
           refine wl_v rfl rfl rfl (v_lss rfl rfl) ?_
           refine wl_nil ?_
           refine wc_cond rfl (fun c4 => ?_) (fun c4 => ?_)
           ·have c4p := of_decide_eq_true c4
            have e3 : ((t.mv.getD i []).length : Int) = k := e1
            refine wc_skip ?_
            refine wc_seq ?_
            refine wc_block ?_
            refine wc_seq ?_
            refine wc_region ?_
            refine wl_v rfl rfl rfl (v_fb (o2 := 0) fa25_0 rfl rfl) ?_
            refine wl_v rfl rfl rfl (v_load one22 rfl (H.at (by repeat constructor) rfl)) ?_
            refine wl_v rfl rfl rfl (v_move rfl) ?_
            refine wl_v rfl rfl rfl (v_idx Try.underlying22 sz38 hM.ad rfl rfl (by omega) (by omega)) ?_
            obtain ⟨B71, cp71, hc71, hl71, hr71⟩ := hM.atSlN (i := i) (by omega)
            refine wl_v rfl rfl rfl (v_load one38 rfl (H.cell (hc71))) ?_
            refine wl_v rfl rfl rfl (v_move rfl) ?_
            refine wl_v rfl rfl rfl (v_idx Try.underlying38 sz48 hr71.ad rfl rfl (by omega) (by omega)) ?_
            refine wl_v rfl rfl rfl (v_loadN (cs := fMv.enc _) agg48 rfl rfl (fun k u hu => H.cell (hr71.atN (i := j) (k := k) mv0 (by omega) hu))) ?_
            refine wl_v rfl rfl rfl (v_move rfl) ?_
            refine wl_v rfl rfl rfl (v_move rfl) ?_
            refine wl_call en38 rfl rfl (rmove_calls) ?_
            rintro _ w3 ⟨rfl, Hc⟩
            have H4 := H.call Hc
            refine wl_v rfl rfl rfl (v_not rfl) ?_
            refine wl_nil ?_
            refine wc_cond rfl (fun c5 => ?_) (fun c5 => ?_)
            ·have c5p := of_n_t c5
             refine wc_seq ?_
             refine wc_region ?_
             refine wl_v rfl rfl rfl (v_assign rfl) ?_
             refine wl_nil ?_
             refine wc_ret ?_
             first
               | exact ⟨_, res1 rfl rfl, congrArg (Value.int .i64) (checkF_arg (by omega)).symm, H4.tail⟩
               | exact ⟨_, res1 rfl rfl, congrArg (Value.int .i64) (checkF_ok (by omega) ⟨by omega, by omega, by omega, fun s hs => ha s (by omega)⟩).symm, H4.tail⟩
               | exact ⟨_, res1 rfl rfl, congrArg (Value.int .i64) (checkF_bad (by omega) fun hg => by obtain ⟨p1, p2, p3, p4⟩ := hg; omega).symm, H4.tail⟩
               | exact ⟨_, res1 rfl rfl, congrArg (Value.int .i64) (checkF_bad (by omega) fun hg => by obtain ⟨p5, p6, p7, p8⟩ := hg.2.2.2 i (by omega); omega).symm, H4.tail⟩
               | exact ⟨_, res1 rfl rfl, congrArg (Value.int .i64) (checkF_bad (by omega) fun hg => by obtain ⟨p5, p6, p7, p8⟩ := hg.2.2.2 i (by omega); have h5 := of_ndec c5p; exact h5 (p7 j (by omega))).symm, H4.tail⟩
               | exact ⟨_, res1 rfl rfl, congrArg (Value.int .i64) (checkF_bad (by omega) fun hg => by obtain ⟨p5, p6, p7, p8⟩ := hg.2.2.2 i (by omega); have h5 := p8 j (by omega); unfold goOk at h5; omega).symm, H4.tail⟩
            ·have c5p := of_n_f c5
             refine wc_skip ?_
             refine wc_region ?_
             refine wl_v rfl rfl rfl (v_move rfl) ?_
             refine wl_v rfl rfl rfl (v_addi rfl rfl (by omega)) ?_
             refine wl_v rfl rfl rfl (v_assign rfl) ?_
             refine wl_nil ?_
             exact ⟨j + 1, (sc rfl (sc rfl (sc rfl (sc rfl (sc rfl (sc rfl (sc rfl (sn _)))))))), ⟨by omega, upto_succ ha2 (by have h5 := of_dec c5p; exact h5), H4⟩, by omega⟩
           ·have c4p := of_decide_eq_false c4
            refine wc_exit ?_
            refine wc_seq ?_
            refine wc_region ?_
            refine wl_v rfl rfl rfl (v_assign rfl) ?_
            refine wl_nil ?_
            refine wc_block ?_
            refine wc_loop (σ := Nat) (fun s => [(1, .int .i64 k), (2, .int .i64 r), (3, .int .i64 p), (4, .pointer (some ⟨b4, 0, none⟩)), (9, .int .i64 t.mv.length), (10, .int .i64 i), (12, .int .i64 s)]) (fun s W => s ≤ (t.go.getD i []).length ∧ (∀ j, j < s → goOk ((t.go.getD i []).getD j 0) t.mv.length) ∧ Holds w [Blk b4 25 [.slice A t.mv.length ca, .slice B t.go.length cb]] W) (fun s => (t.go.getD i []).length - s) 0 (sc rfl (sc rfl (sc rfl (sc rfl (sc rfl (sc rfl (sc rfl (sn _)))))))) ⟨Nat.zero_le _, upto_zero, H⟩ ?_
            rintro j W2 ⟨hj, ha3, H⟩
            refine wc_seq ?_
            refine wc_seq ?_
            refine wc_region ?_
            refine wl_v rfl rfl rfl (v_move rfl) ?_
            refine wl_v rfl rfl rfl (v_move rfl) ?_
            refine wl_v rfl rfl rfl (v_lss rfl rfl) ?_
            refine wl_nil ?_
            refine wc_cond rfl (fun c6 => ?_) (fun c6 => ?_)
            ·have c6p := of_decide_eq_true c6
             have e3 : ((t.go.getD i []).length : Int) = r := e2
             refine wc_skip ?_
             refine wc_seq ?_
             refine wc_block ?_
             refine wc_seq ?_
             refine wc_region ?_
             refine wl_v rfl rfl rfl (v_fb (o2 := 1) fa25_1 rfl rfl) ?_
             refine wl_v rfl rfl rfl (v_load one23 rfl (H.at (by repeat constructor) rfl)) ?_
             refine wl_v rfl rfl rfl (v_move rfl) ?_
             refine wl_v rfl rfl rfl (v_idx Try.underlying23 sz39 hG.ad rfl rfl (by omega) (by omega)) ?_
             obtain ⟨B88, cp88, hc88, hl88, hr88⟩ := hG.atSlN (i := i) (by omega)
             refine wl_v rfl rfl rfl (v_load one39 rfl (H.cell (hc88))) ?_
             refine wl_v rfl rfl rfl (v_move rfl) ?_
             refine wl_v rfl rfl rfl (v_idx Try.underlying39 sz3 hr88.ad rfl rfl (by omega) (by omega)) ?_
             refine wl_v rfl rfl rfl (v_load one3 rfl (H.cell (hr88.at1N (i := j) (by omega)))) ?_
             refine wl_v rfl rfl rfl (v_lss rfl rfl) ?_
             refine wl_v rfl rfl rfl (v_move rfl) ?_
             refine wl_guard rfl rfl rfl (fun g93 => ?_) (fun g93 => ?_)
             ·have g93p := of_decide_eq_false g93
              refine wl_v rfl rfl rfl (v_fb (o2 := 1) fa25_1 rfl rfl) ?_
              refine wl_on' rfl rfl g93 ?_
              refine wl_v rfl rfl rfl (v_load one23 rfl (H.at (by repeat constructor) rfl)) ?_
              refine wl_on' rfl rfl g93 ?_
              refine wl_v rfl rfl rfl (v_move rfl) ?_
              refine wl_on' rfl rfl g93 ?_
              refine wl_v rfl rfl rfl (v_idx Try.underlying23 sz39 hG.ad rfl rfl (by omega) (by omega)) ?_
              refine wl_on' rfl rfl g93 ?_
              obtain ⟨B98, cp98, hc98, hl98, hr98⟩ := hG.atSlN (i := i) (by omega)
              refine wl_v rfl rfl rfl (v_load one39 rfl (H.cell (hc98))) ?_
              refine wl_on' rfl rfl g93 ?_
              refine wl_v rfl rfl rfl (v_move rfl) ?_
              refine wl_on' rfl rfl g93 ?_
              refine wl_v rfl rfl rfl (v_idx Try.underlying39 sz3 hr98.ad rfl rfl (by omega) (by omega)) ?_
              refine wl_on' rfl rfl g93 ?_
              refine wl_v rfl rfl rfl (v_load one3 rfl (H.cell (hr98.at1N (i := j) (by omega)))) ?_
              refine wl_on' rfl rfl g93 ?_
              refine wl_v rfl rfl rfl (v_move rfl) ?_
              refine wl_on' rfl rfl g93 ?_
              refine wl_v rfl rfl rfl (v_geq rfl rfl) ?_
              refine wl_v rfl rfl rfl (v_pick_f rfl g93 rfl) ?_
              refine wl_nil ?_
              refine wc_cond rfl (fun c7 => ?_) (fun c7 => ?_)
              ·have c7p := of_decide_eq_true c7
               refine wc_seq ?_
               refine wc_region ?_
               refine wl_v rfl rfl rfl (v_assign rfl) ?_
               refine wl_nil ?_
               refine wc_ret ?_
               first
                 | exact ⟨_, res1 rfl rfl, congrArg (Value.int .i64) (checkF_arg (by omega)).symm, H.tail⟩
                 | exact ⟨_, res1 rfl rfl, congrArg (Value.int .i64) (checkF_ok (by omega) ⟨by omega, by omega, by omega, fun s hs => ha s (by omega)⟩).symm, H.tail⟩
                 | exact ⟨_, res1 rfl rfl, congrArg (Value.int .i64) (checkF_bad (by omega) fun hg => by obtain ⟨p1, p2, p3, p4⟩ := hg; omega).symm, H.tail⟩
                 | exact ⟨_, res1 rfl rfl, congrArg (Value.int .i64) (checkF_bad (by omega) fun hg => by obtain ⟨p5, p6, p7, p8⟩ := hg.2.2.2 i (by omega); omega).symm, H.tail⟩
                 | exact ⟨_, res1 rfl rfl, congrArg (Value.int .i64) (checkF_bad (by omega) fun hg => by obtain ⟨p5, p6, p7, p8⟩ := hg.2.2.2 i (by omega); have h5 := of_ndec c5p; exact h5 (p7 j (by omega))).symm, H.tail⟩
                 | exact ⟨_, res1 rfl rfl, congrArg (Value.int .i64) (checkF_bad (by omega) fun hg => by obtain ⟨p5, p6, p7, p8⟩ := hg.2.2.2 i (by omega); have h5 := p8 j (by omega); unfold goOk at h5; omega).symm, H.tail⟩
              ·have c7p := of_decide_eq_false c7
               refine wc_skip ?_
               refine wc_region ?_
               refine wl_v rfl rfl rfl (v_move rfl) ?_
               refine wl_v rfl rfl rfl (v_addi rfl rfl (by omega)) ?_
               refine wl_v rfl rfl rfl (v_assign rfl) ?_
               refine wl_nil ?_
               exact ⟨j + 1, (sc rfl (sc rfl (sc rfl (sc rfl (sc rfl (sc rfl (sc rfl (sn _)))))))), ⟨by omega, upto_succ ha3 (by unfold goOk; omega), H⟩, by omega⟩
             ·have g93p := of_decide_eq_true g93
              refine wl_off rfl rfl g93 rfl ?_
              refine wl_off rfl rfl g93 rfl ?_
              refine wl_off rfl rfl g93 rfl ?_
              refine wl_off rfl rfl g93 rfl ?_
              refine wl_off rfl rfl g93 rfl ?_
              refine wl_off rfl rfl g93 rfl ?_
              refine wl_off rfl rfl g93 rfl ?_
              refine wl_off rfl rfl g93 rfl ?_
              refine wl_off rfl rfl g93 rfl ?_
              refine wl_v rfl rfl rfl (v_pick_t rfl g93 rfl) ?_
              refine wl_nil ?_
              refine wc_cond_t rfl ?_
              refine wc_seq ?_
              refine wc_region ?_
              refine wl_v rfl rfl rfl (v_assign rfl) ?_
              refine wl_nil ?_
              refine wc_ret ?_
              first
                | exact ⟨_, res1 rfl rfl, congrArg (Value.int .i64) (checkF_arg (by omega)).symm, H.tail⟩
                | exact ⟨_, res1 rfl rfl, congrArg (Value.int .i64) (checkF_ok (by omega) ⟨by omega, by omega, by omega, fun s hs => ha s (by omega)⟩).symm, H.tail⟩
                | exact ⟨_, res1 rfl rfl, congrArg (Value.int .i64) (checkF_bad (by omega) fun hg => by obtain ⟨p1, p2, p3, p4⟩ := hg; omega).symm, H.tail⟩
                | exact ⟨_, res1 rfl rfl, congrArg (Value.int .i64) (checkF_bad (by omega) fun hg => by obtain ⟨p5, p6, p7, p8⟩ := hg.2.2.2 i (by omega); omega).symm, H.tail⟩
                | exact ⟨_, res1 rfl rfl, congrArg (Value.int .i64) (checkF_bad (by omega) fun hg => by obtain ⟨p5, p6, p7, p8⟩ := hg.2.2.2 i (by omega); have h5 := of_ndec c5p; exact h5 (p7 j (by omega))).symm, H.tail⟩
                | exact ⟨_, res1 rfl rfl, congrArg (Value.int .i64) (checkF_bad (by omega) fun hg => by obtain ⟨p5, p6, p7, p8⟩ := hg.2.2.2 i (by omega); have h5 := p8 j (by omega); unfold goOk at h5; omega).symm, H.tail⟩
            ·have c6p := of_decide_eq_false c6
             refine wc_exit ?_
             refine wc_region ?_
             refine wl_v rfl rfl rfl (v_move rfl) ?_
             refine wl_v rfl rfl rfl (v_addi rfl rfl (by omega)) ?_
             refine wl_v rfl rfl rfl (v_assign rfl) ?_
             refine wl_nil ?_
             exact ⟨i + 1, (sc rfl (sc rfl (sc rfl (sc rfl (sc rfl (sc rfl (sn _))))))), ⟨by omega, upto_succ ha ⟨by omega, by omega, fun j hj => ha2 j (by omega), fun j hj => ha3 j (by omega)⟩, H⟩, by omega⟩
         ·have g52p := of_nd_t g52
          refine wl_off rfl rfl g52 rfl ?_
          refine wl_off rfl rfl g52 rfl ?_
          refine wl_off rfl rfl g52 rfl ?_
          refine wl_off rfl rfl g52 rfl ?_
          refine wl_off rfl rfl g52 rfl ?_
          refine wl_off rfl rfl g52 rfl ?_
          refine wl_off rfl rfl g52 rfl ?_
          refine wl_v rfl rfl rfl (v_pick_t rfl g52 rfl) ?_
          refine wl_nil ?_
          refine wc_cond_t rfl ?_
          refine wc_seq ?_
          refine wc_region ?_
          refine wl_v rfl rfl rfl (v_assign rfl) ?_
          refine wl_nil ?_
          refine wc_ret ?_
          first
            | exact ⟨_, res1 rfl rfl, congrArg (Value.int .i64) (checkF_arg (by omega)).symm, H.tail⟩
            | exact ⟨_, res1 rfl rfl, congrArg (Value.int .i64) (checkF_ok (by omega) ⟨by omega, by omega, by omega, fun s hs => ha s (by omega)⟩).symm, H.tail⟩
            | exact ⟨_, res1 rfl rfl, congrArg (Value.int .i64) (checkF_bad (by omega) fun hg => by obtain ⟨p1, p2, p3, p4⟩ := hg; omega).symm, H.tail⟩
            | exact ⟨_, res1 rfl rfl, congrArg (Value.int .i64) (checkF_bad (by omega) fun hg => by obtain ⟨p5, p6, p7, p8⟩ := hg.2.2.2 i (by omega); omega).symm, H.tail⟩
            | exact ⟨_, res1 rfl rfl, congrArg (Value.int .i64) (checkF_bad (by omega) fun hg => by obtain ⟨p5, p6, p7, p8⟩ := hg.2.2.2 i (by omega); have h5 := of_ndec c5p; exact h5 (p7 j (by omega))).symm, H.tail⟩
            | exact ⟨_, res1 rfl rfl, congrArg (Value.int .i64) (checkF_bad (by omega) fun hg => by obtain ⟨p5, p6, p7, p8⟩ := hg.2.2.2 i (by omega); have h5 := p8 j (by omega); unfold goOk at h5; omega).symm, H.tail⟩
        ·have c2p := of_decide_eq_false c2
         refine wc_exit ?_
         refine wc_seq ?_
         refine wc_region ?_
         refine wl_v rfl rfl rfl (v_assign rfl) ?_
         refine wl_nil ?_
         refine wc_ret ?_
         first
           | exact ⟨_, res1 rfl rfl, congrArg (Value.int .i64) (checkF_arg (by omega)).symm, H.tail⟩
           | exact ⟨_, res1 rfl rfl, congrArg (Value.int .i64) (checkF_ok (by omega) ⟨by omega, by omega, by omega, fun s hs => ha s (by omega)⟩).symm, H.tail⟩
           | exact ⟨_, res1 rfl rfl, congrArg (Value.int .i64) (checkF_bad (by omega) fun hg => by obtain ⟨p1, p2, p3, p4⟩ := hg; omega).symm, H.tail⟩
           | exact ⟨_, res1 rfl rfl, congrArg (Value.int .i64) (checkF_bad (by omega) fun hg => by obtain ⟨p5, p6, p7, p8⟩ := hg.2.2.2 i (by omega); omega).symm, H.tail⟩
           | exact ⟨_, res1 rfl rfl, congrArg (Value.int .i64) (checkF_bad (by omega) fun hg => by obtain ⟨p5, p6, p7, p8⟩ := hg.2.2.2 i (by omega); have h5 := of_ndec c5p; exact h5 (p7 j (by omega))).symm, H.tail⟩
           | exact ⟨_, res1 rfl rfl, congrArg (Value.int .i64) (checkF_bad (by omega) fun hg => by obtain ⟨p5, p6, p7, p8⟩ := hg.2.2.2 i (by omega); have h5 := p8 j (by omega); unfold goOk at h5; omega).symm, H.tail⟩
      ·have g32p := of_decide_eq_true g32
       refine wl_off rfl rfl g32 rfl ?_
       refine wl_off rfl rfl g32 rfl ?_
       refine wl_off rfl rfl g32 rfl ?_
       refine wl_off rfl rfl g32 rfl ?_
       refine wl_v rfl rfl rfl (v_pick_t rfl g32 rfl) ?_
       refine wl_nil ?_
       refine wc_cond_t rfl ?_
       refine wc_seq ?_
       refine wc_region ?_
       refine wl_v rfl rfl rfl (v_assign rfl) ?_
       refine wl_nil ?_
       refine wc_ret ?_
       first
         | exact ⟨_, res1 rfl rfl, congrArg (Value.int .i64) (checkF_arg (by omega)).symm, H2.tail⟩
         | exact ⟨_, res1 rfl rfl, congrArg (Value.int .i64) (checkF_ok (by omega) ⟨by omega, by omega, by omega, fun s hs => ha s (by omega)⟩).symm, H2.tail⟩
         | exact ⟨_, res1 rfl rfl, congrArg (Value.int .i64) (checkF_bad (by omega) fun hg => by obtain ⟨p1, p2, p3, p4⟩ := hg; omega).symm, H2.tail⟩
         | exact ⟨_, res1 rfl rfl, congrArg (Value.int .i64) (checkF_bad (by omega) fun hg => by obtain ⟨p5, p6, p7, p8⟩ := hg.2.2.2 i (by omega); omega).symm, H2.tail⟩
         | exact ⟨_, res1 rfl rfl, congrArg (Value.int .i64) (checkF_bad (by omega) fun hg => by obtain ⟨p5, p6, p7, p8⟩ := hg.2.2.2 i (by omega); have h5 := of_ndec c5p; exact h5 (p7 j (by omega))).symm, H2.tail⟩
         | exact ⟨_, res1 rfl rfl, congrArg (Value.int .i64) (checkF_bad (by omega) fun hg => by obtain ⟨p5, p6, p7, p8⟩ := hg.2.2.2 i (by omega); have h5 := p8 j (by omega); unfold goOk at h5; omega).symm, H2.tail⟩
     ·have g28p := of_decide_eq_true g28
      refine wl_off rfl rfl g28 rfl ?_
      refine wl_v rfl rfl rfl (v_pick_t rfl g28 rfl) ?_
      refine wl_v rfl rfl rfl (v_move rfl) ?_
      refine wl_off rfl rfl rfl rfl ?_
      refine wl_off rfl rfl rfl rfl ?_
      refine wl_off rfl rfl rfl rfl ?_
      refine wl_off rfl rfl rfl rfl ?_
      refine wl_off rfl rfl rfl rfl ?_
      refine wl_v rfl rfl rfl (v_pick_t rfl rfl rfl) ?_
      refine wl_nil ?_
      refine wc_cond_t rfl ?_
      refine wc_seq ?_
      refine wc_region ?_
      refine wl_v rfl rfl rfl (v_assign rfl) ?_
      refine wl_nil ?_
      refine wc_ret ?_
      first
        | exact ⟨_, res1 rfl rfl, congrArg (Value.int .i64) (checkF_arg (by omega)).symm, H2.tail⟩
        | exact ⟨_, res1 rfl rfl, congrArg (Value.int .i64) (checkF_ok (by omega) ⟨by omega, by omega, by omega, fun s hs => ha s (by omega)⟩).symm, H2.tail⟩
        | exact ⟨_, res1 rfl rfl, congrArg (Value.int .i64) (checkF_bad (by omega) fun hg => by obtain ⟨p1, p2, p3, p4⟩ := hg; omega).symm, H2.tail⟩
        | exact ⟨_, res1 rfl rfl, congrArg (Value.int .i64) (checkF_bad (by omega) fun hg => by obtain ⟨p5, p6, p7, p8⟩ := hg.2.2.2 i (by omega); omega).symm, H2.tail⟩
        | exact ⟨_, res1 rfl rfl, congrArg (Value.int .i64) (checkF_bad (by omega) fun hg => by obtain ⟨p5, p6, p7, p8⟩ := hg.2.2.2 i (by omega); have h5 := of_ndec c5p; exact h5 (p7 j (by omega))).symm, H2.tail⟩
        | exact ⟨_, res1 rfl rfl, congrArg (Value.int .i64) (checkF_bad (by omega) fun hg => by obtain ⟨p5, p6, p7, p8⟩ := hg.2.2.2 i (by omega); have h5 := p8 j (by omega); unfold goOk at h5; omega).symm, H2.tail⟩
   ·have g19p := of_decide_eq_true g19
    refine wl_off rfl rfl g19 rfl ?_
    refine wl_v rfl rfl rfl (v_pick_t rfl g19 rfl) ?_
    refine wl_nil ?_
    refine wc_cond_t rfl ?_
    refine wc_seq ?_
    refine wc_region ?_
    refine wl_v rfl rfl rfl (v_assign rfl) ?_
    refine wl_nil ?_
    refine wc_ret ?_
    first
      | exact ⟨_, res1 rfl rfl, congrArg (Value.int .i64) (checkF_arg (by omega)).symm, H2.tail⟩
      | exact ⟨_, res1 rfl rfl, congrArg (Value.int .i64) (checkF_ok (by omega) ⟨by omega, by omega, by omega, fun s hs => ha s (by omega)⟩).symm, H2.tail⟩
      | exact ⟨_, res1 rfl rfl, congrArg (Value.int .i64) (checkF_bad (by omega) fun hg => by obtain ⟨p1, p2, p3, p4⟩ := hg; omega).symm, H2.tail⟩
      | exact ⟨_, res1 rfl rfl, congrArg (Value.int .i64) (checkF_bad (by omega) fun hg => by obtain ⟨p5, p6, p7, p8⟩ := hg.2.2.2 i (by omega); omega).symm, H2.tail⟩
      | exact ⟨_, res1 rfl rfl, congrArg (Value.int .i64) (checkF_bad (by omega) fun hg => by obtain ⟨p5, p6, p7, p8⟩ := hg.2.2.2 i (by omega); have h5 := of_ndec c5p; exact h5 (p7 j (by omega))).symm, H2.tail⟩
      | exact ⟨_, res1 rfl rfl, congrArg (Value.int .i64) (checkF_bad (by omega) fun hg => by obtain ⟨p5, p6, p7, p8⟩ := hg.2.2.2 i (by omega); have h5 := p8 j (by omega); unfold goOk at h5; omega).symm, H2.tail⟩
  ·have g15p := of_decide_eq_true g15
   refine wl_off rfl rfl g15 rfl ?_
   refine wl_v rfl rfl rfl (v_pick_t rfl g15 rfl) ?_
   refine wl_v rfl rfl rfl (v_move rfl) ?_
   refine wl_off rfl rfl rfl rfl ?_
   refine wl_off rfl rfl rfl rfl ?_
   refine wl_v rfl rfl rfl (v_pick_t rfl rfl rfl) ?_
   refine wl_nil ?_
   refine wc_cond_t rfl ?_
   refine wc_seq ?_
   refine wc_region ?_
   refine wl_v rfl rfl rfl (v_assign rfl) ?_
   refine wl_nil ?_
   refine wc_ret ?_
   first
     | exact ⟨_, res1 rfl rfl, congrArg (Value.int .i64) (checkF_arg (by omega)).symm, H2.tail⟩
     | exact ⟨_, res1 rfl rfl, congrArg (Value.int .i64) (checkF_ok (by omega) ⟨by omega, by omega, by omega, fun s hs => ha s (by omega)⟩).symm, H2.tail⟩
     | exact ⟨_, res1 rfl rfl, congrArg (Value.int .i64) (checkF_bad (by omega) fun hg => by obtain ⟨p1, p2, p3, p4⟩ := hg; omega).symm, H2.tail⟩
     | exact ⟨_, res1 rfl rfl, congrArg (Value.int .i64) (checkF_bad (by omega) fun hg => by obtain ⟨p5, p6, p7, p8⟩ := hg.2.2.2 i (by omega); omega).symm, H2.tail⟩
     | exact ⟨_, res1 rfl rfl, congrArg (Value.int .i64) (checkF_bad (by omega) fun hg => by obtain ⟨p5, p6, p7, p8⟩ := hg.2.2.2 i (by omega); have h5 := of_ndec c5p; exact h5 (p7 j (by omega))).symm, H2.tail⟩
     | exact ⟨_, res1 rfl rfl, congrArg (Value.int .i64) (checkF_bad (by omega) fun hg => by obtain ⟨p5, p6, p7, p8⟩ := hg.2.2.2 i (by omega); have h5 := p8 j (by omega); unfold goOk at h5; omega).symm, H2.tail⟩
end Go.Proofs.Ytkpehkadammppaa.TabB
