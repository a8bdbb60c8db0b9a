/- The program's values. What data mean. -/
import Derived.Test.YtgdemplcpcacaaaProg
import Derived.Test.YtgdemplcpcacaaaK10
import Derived.Test.YtgdemplcpcacaaaK03
import Derived.Test.YtgdemplcpcacaaaK05
import Derived.Test.YtgdemplcpcacaaaK08
set_option linter.unusedVariables false
set_option linter.unusedSimpArgs false
/-! The program's values. -/
namespace Go.Proofs.Ytgdemplcpcacaaa.PValue
open Go Go.RowKit Go.Proofs.YtgdemplcpcacaaaFx Go.Proofs.Ytgdemplcpcacaaa.PartsW Go.Proofs.Ytgdemplcpcacaaa.KindsW Go.Proofs.Ytgdemplcpcacaaa.GramW Go.Proofs.Ytgdemplcpcacaaa.MakeW Go.Proofs.Ytgdemplcpcacaaa.MakerW Go.Proofs.Ytgdemplcpcacaaa.ValueW Go.Proofs.Ytgdemplcpcacaaa.ValW Go.Proofs.Ytgdemplcpcacaaa.CheckW
theorem agg24 : Agg Try.prog 24 4 := agg_of Try.underlying24 (by kernel_rfl)
theorem agg44 : Agg Try.prog 44 5 := agg_of Try.underlying44 (by kernel_rfl)
theorem agg50 : Agg Try.prog 50 3 := agg_of Try.underlying50 (by kernel_rfl)
theorem agg69 : Agg Try.prog 69 4 := agg_of Try.underlying69 (by kernel_rfl)
theorem agg73 : Agg Try.prog 73 7 := agg_of Try.underlying73 (by kernel_rfl)
theorem ba105 : BuildAt Try.prog 105 [.slice none 0 0] [(0, 1)] := build_at Try.underlying105 (by kernel_rfl) (by kernel_rfl)
theorem ba24 : BuildAt Try.prog 24 [.int .i64 0, .string ⟨#[]⟩, .int .i64 0, .slice none 0 0] [(0, 1), (1, 1), (2, 1), (3, 1)] := build_at Try.underlying24 (by kernel_rfl) (by kernel_rfl)
theorem en34 : Enters Try.prog 34 := enters Try.func34 (by kernel_rfl) rfl
theorem en35 : Enters Try.prog 35 := enters Try.func35 (by kernel_rfl) rfl
theorem en36 : Enters Try.prog 36 := enters Try.func36 (by kernel_rfl) rfl
theorem en37 : Enters Try.prog 37 := enters Try.func37 (by kernel_rfl) rfl
theorem en38 : Enters Try.prog 38 := enters Try.func38 (by kernel_rfl) rfl
theorem en39 : Enters Try.prog 39 := enters Try.func39 (by kernel_rfl) rfl
theorem en40 : Enters Try.prog 40 := enters Try.func40 (by kernel_rfl) rfl
theorem en41 : Enters Try.prog 41 := enters Try.func41 (by kernel_rfl) rfl
theorem en63 : Enters Try.prog 63 := enters Try.func63 (by kernel_rfl) rfl
theorem fa105_0 : FieldAt Try.prog 105 0 0 := field_at (sz := 0) Try.underlying105 rfl (by kernel_rfl) rfl
theorem fa44_3 : FieldAt Try.prog 44 3 3 := field_at (sz := 0) Try.underlying44 rfl (by kernel_rfl) rfl
theorem fa69_0 : FieldAt Try.prog 69 0 0 := field_at (sz := 0) Try.underlying69 rfl (by kernel_rfl) rfl
theorem fa69_1 : FieldAt Try.prog 69 1 1 := field_at (sz := 0) Try.underlying69 rfl (by kernel_rfl) rfl
theorem fa69_2 : FieldAt Try.prog 69 2 2 := field_at (sz := 0) Try.underlying69 rfl (by kernel_rfl) rfl
theorem fa69_3 : FieldAt Try.prog 69 3 3 := field_at (sz := 0) Try.underlying69 rfl (by kernel_rfl) rfl
theorem fa73_1 : FieldAt Try.prog 73 1 1 := field_at (sz := 0) Try.underlying73 rfl (by kernel_rfl) rfl
theorem fa73_3 : FieldAt Try.prog 73 3 3 := field_at (sz := 3) Try.underlying73 rfl (by kernel_rfl) rfl
theorem info107 : (Try.prog.info? 107).map (fun i => (i.zero, i.size, i.bytes)) = some (some (.nilFunc), 1, 8) := by kernel_rfl
theorem mixed : Try.prog.follows .mixedOrders = true := by kernel_rfl
theorem one103 : One Try.prog 103 := one_of Try.underlying103 rfl (by kernel_rfl)
theorem one3 : One Try.prog 3 := one_of Try.underlying3 rfl (by kernel_rfl)
theorem one42 : One Try.prog 42 := one_of Try.underlying42 rfl (by kernel_rfl)
theorem one51 : One Try.prog 51 := one_of Try.underlying51 rfl (by kernel_rfl)
theorem one67 : One Try.prog 67 := one_of Try.underlying67 rfl (by kernel_rfl)
theorem one9 : One Try.prog 9 := one_of Try.underlying9 rfl (by kernel_rfl)
theorem sz103 : ∀ W, (sizeOf 103).run Try.prog W = .ok 1 W := size_of (by kernel_rfl)
theorem sz107 : ∀ W, (sizeOf 107).run Try.prog W = .ok 1 W := size_of (by kernel_rfl)
theorem sz24 : ∀ W, (sizeOf 24).run Try.prog W = .ok 4 W := size_of (by kernel_rfl)
theorem sz69 : ∀ W, (sizeOf 69).run Try.prog W = .ok 4 W := size_of (by kernel_rfl)
theorem sz73 : ∀ W, (sizeOf 73).run Try.prog W = .ok 7 W := size_of (by kernel_rfl)
theorem zv107 : ∀ W, (zeroValue 107).run Try.prog W = .ok (.nilFunc) W := zero_of (by kernel_rfl)
theorem zv24 : ∀ W, (zeroValue 24).run Try.prog W = .ok (.agg #[.int .i64 0, .string ⟨#[]⟩, .int .i64 0, .slice none 0 0]) W := zero_of (by kernel_rfl)
theorem zv4 : ∀ W, (zeroValue 4).run Try.prog W = .ok (.bool false) W := zero_of (by kernel_rfl)
theorem zv69 : ∀ W, (zeroValue 69).run Try.prog W = .ok (.agg #[.int .i64 0, .int .i64 0, .string ⟨#[]⟩, .slice none 0 0]) W := zero_of (by kernel_rfl)
theorem zv73 : ∀ W, (zeroValue 73).run Try.prog W = .ok (.agg #[.int .i64 0, .slice none 0 0, .int .i64 0, .int .i64 0, .int .i64 0, .string ⟨#[]⟩, .slice none 0 0]) W := zero_of (by kernel_rfl)

set_option maxHeartbeats 1600000 in
set_option maxRecDepth 100000 in
theorem plain_calls {w : World} {B : Option Addr} {k : Nat} {syms : Int} {t : Ac} (hn : nodeOk syms t.x t.kids.length) : Calls Try.prog 63 #[.agg #[.int .i64 t.x.kind, .int .i64 t.x.at_, .string t.x.name, .slice B t.kids.length k]] w fun e w' => ∃ v, e = .returned v ∧ v = .bool true ∧ Holds w [] w' := by
  refine calls_of Try.func63 rfl Try.ntmps63 rfl ?_
  have H := Holds.start w
  refine wcR ?_
  refine wl_box (cs := [_, _, _, _]) H rfl rfl rfl ?_
  intro b1 w1 hb1 H2
  refine wA ?_
  refine wl_nil ?_
  refine wc_seq ?_
  refine wcR ?_
  refine wV (v_fb (o2 := 0) fa69_0 rfl rfl) ?_
  refine wV (v_load one3 rfl (H2.at (by repeat constructor) rfl)) ?_
  refine wl_nil ?_
  refine wc_block ?_
  refine wcR ?_
  refine wV (v_eql rfl rfl) ?_
  refine wA ?_
  refine wl_nil ?_
  refine wc_cond rfl (fun c0 => ?_) (fun c0 => ?_)
  ·have c0p := oT c0
   refine wcR ?_
   refine wV (v_fb (o2 := 1) fa69_1 rfl rfl) ?_
   refine wV (v_load one3 rfl (H2.at (by repeat constructor) rfl)) ?_
   refine wV (v_eql rfl rfl) ?_
   refine wM ?_
   refine wl_guard rfl rfl rfl (fun g10 => ?_) (fun g10 => ?_)
   rotate_left
   ·have g10p := oF g10
    refine wF g10 ?_
    refine wF g10 ?_
    refine wV (v_pick_f rfl g10 rfl) ?_
    refine wM ?_
    refine wF rfl ?_
    refine wF rfl ?_
    refine wF rfl ?_
    refine wF rfl ?_
    refine wV (v_pick_f rfl rfl rfl) ?_
    refine wA ?_
    refine wl_nil ?_
    refine wc_ret ?_
    first
      | exact ⟨_, res1 rfl rfl, congrArg Value.bool (decide_eq_true (by unfold nodeOk at hn; omega)), H2.pm (Pm.nil _)⟩
      | exact absurd hn (by unfold nodeOk; omega)
   have g10p := oT g10
   refine wV (v_fb (o2 := 2) fa69_2 rfl rfl) ?_
   refine wO g10 ?_
   refine wV (v_load one9 rfl (H2.at (by repeat constructor) rfl)) ?_
   refine wO g10 ?_
   refine wV (v_eql0 rfl rfl) ?_
   refine wV (v_pick_t rfl g10 rfl) ?_
   refine wM ?_
   refine wl_guard rfl rfl rfl (fun g15 => ?_) (fun g15 => ?_)
   rotate_left
   ·have g15p := oF g15
    refine wF g15 ?_
    refine wF g15 ?_
    refine wF g15 ?_
    refine wV (v_pick_f rfl g15 rfl) ?_
    refine wA ?_
    refine wl_nil ?_
    refine wc_ret ?_
    first
      | exact ⟨_, res1 rfl rfl, congrArg Value.bool (decide_eq_true (by unfold nodeOk at hn; omega)), H2.pm (Pm.nil _)⟩
      | exact absurd hn (by unfold nodeOk; omega)
   have g15p := oT g15
   refine wV (v_fb (o2 := 3) fa69_3 rfl rfl) ?_
   refine wO g15 ?_
   refine wV (v_load one67 rfl (H2.at (by repeat constructor) rfl)) ?_
   refine wO g15 ?_
   refine wV (v_len Try.underlying67 rfl) ?_
   refine wO g15 ?_
   refine wV (v_eql rfl rfl) ?_
   refine wV (v_pick_t rfl g15 rfl) ?_
   refine wA ?_
   refine wl_nil ?_
   refine wc_ret ?_
   first
     | exact ⟨_, res1 rfl rfl, congrArg Value.bool (decide_eq_true (by unfold nodeOk at hn; omega)), H2.pm (Pm.nil _)⟩
     | exact absurd hn (by unfold nodeOk; omega)
  have c0p := oF c0
  refine wcR ?_
  refine wV (v_eql rfl rfl) ?_
  refine wA ?_
  refine wl_nil ?_
  refine wc_cond rfl (fun c1 => ?_) (fun c1 => ?_)
  ·have c1p := oT c1
   refine wcR ?_
   refine wV (v_fb (o2 := 2) fa69_2 rfl rfl) ?_
   refine wV (v_load one9 rfl (H2.at (by repeat constructor) rfl)) ?_
   refine wV (v_eql0 rfl rfl) ?_
   refine wM ?_
   refine wl_guard rfl rfl rfl (fun g26 => ?_) (fun g26 => ?_)
   rotate_left
   ·have g26p := oF g26
    refine wF g26 ?_
    refine wF g26 ?_
    refine wF g26 ?_
    refine wV (v_pick_f rfl g26 rfl) ?_
    refine wA ?_
    refine wl_nil ?_
    refine wc_ret ?_
    first
      | exact ⟨_, res1 rfl rfl, congrArg Value.bool (decide_eq_true (by unfold nodeOk at hn; omega)), H2.pm (Pm.nil _)⟩
      | exact absurd hn (by unfold nodeOk; omega)
   have g26p := oT g26
   refine wV (v_fb (o2 := 3) fa69_3 rfl rfl) ?_
   refine wO g26 ?_
   refine wV (v_load one67 rfl (H2.at (by repeat constructor) rfl)) ?_
   refine wO g26 ?_
   refine wV (v_len Try.underlying67 rfl) ?_
   refine wO g26 ?_
   refine wV (v_eql rfl rfl) ?_
   refine wV (v_pick_t rfl g26 rfl) ?_
   refine wA ?_
   refine wl_nil ?_
   refine wc_ret ?_
   first
     | exact ⟨_, res1 rfl rfl, congrArg Value.bool (decide_eq_true (by unfold nodeOk at hn; omega)), H2.pm (Pm.nil _)⟩
     | exact absurd hn (by unfold nodeOk; omega)
  have c1p := oF c1
  refine wcR ?_
  refine wV (v_eql rfl rfl) ?_
  refine wA ?_
  refine wl_nil ?_
  refine wc_cond rfl (fun c2 => ?_) (fun c2 => ?_)
  rotate_left
  ·have c2p := oF c2
   refine wcR ?_
   refine wV (v_eql rfl rfl) ?_
   refine wA ?_
   refine wl_nil ?_
   refine wc_cond rfl (fun c3 => ?_) (fun c3 => ?_)
   rotate_left
   ·have c3p := oF c3
    refine wc_skip ?_
    refine wcR ?_
    refine wA ?_
    refine wl_nil ?_
    refine wc_ret ?_
    first
      | exact ⟨_, res1 rfl rfl, congrArg Value.bool (decide_eq_true (by unfold nodeOk at hn; omega)), H2.pm (Pm.nil _)⟩
      | exact absurd hn (by unfold nodeOk; omega)
   have c3p := oT c3
   refine wcR ?_
   refine wV (v_fb (o2 := 1) fa69_1 rfl rfl) ?_
   refine wV (v_load one3 rfl (H2.at (by repeat constructor) rfl)) ?_
   refine wV (v_eql rfl rfl) ?_
   refine wA ?_
   refine wl_nil ?_
   refine wc_ret ?_
   first
     | exact ⟨_, res1 rfl rfl, congrArg Value.bool (decide_eq_true (by unfold nodeOk at hn; omega)), H2.pm (Pm.nil _)⟩
     | exact absurd hn (by unfold nodeOk; omega)
  have c2p := oT c2
  refine wcR ?_
  refine wV (v_fb (o2 := 1) fa69_1 rfl rfl) ?_
  refine wV (v_load one3 rfl (H2.at (by repeat constructor) rfl)) ?_
  refine wV (v_eql rfl rfl) ?_
  refine wM ?_
  refine wl_guard rfl rfl rfl (fun g37 => ?_) (fun g37 => ?_)
  rotate_left
  ·have g37p := oF g37
   refine wF g37 ?_
   refine wF g37 ?_
   refine wF g37 ?_
   refine wV (v_pick_f rfl g37 rfl) ?_
   refine wA ?_
   refine wl_nil ?_
   refine wc_ret ?_
   first
     | exact ⟨_, res1 rfl rfl, congrArg Value.bool (decide_eq_true (by unfold nodeOk at hn; omega)), H2.pm (Pm.nil _)⟩
     | exact absurd hn (by unfold nodeOk; omega)
  have g37p := oT g37
  refine wV (v_fb (o2 := 3) fa69_3 rfl rfl) ?_
  refine wO g37 ?_
  refine wV (v_load one67 rfl (H2.at (by repeat constructor) rfl)) ?_
  refine wO g37 ?_
  refine wV (v_len Try.underlying67 rfl) ?_
  refine wO g37 ?_
  refine wV (v_eql rfl rfl) ?_
  refine wV (v_pick_t rfl g37 rfl) ?_
  refine wA ?_
  refine wl_nil ?_
  refine wc_ret ?_
  first
    | exact ⟨_, res1 rfl rfl, congrArg Value.bool (decide_eq_true (by unfold nodeOk at hn; omega)), H2.pm (Pm.nil _)⟩
    | exact absurd hn (by unfold nodeOk; omega)

def RightsOk (t : Ac) : Prop := ∀ (w : World) (B : Option Addr) (k : Nat) (syms : Int) (hr : Rd (kTr fAc) w B t.kids) (hall : t.All (nodeOk syms)) (hcn : t.cnt ≤ 1099511627776), Calls Try.prog 37 #[.agg #[.int .i64 t.x.kind, .int .i64 t.x.at_, .string t.x.name, .slice B t.kids.length k], .int .i64 syms] w fun e w' => ∃ v, e = .returned v ∧ v = .bool true ∧ Holds w [] w'

set_option maxHeartbeats 3200000 in
set_option maxRecDepth 100000 in
theorem rights_step {w : World} {B : Option Addr} {k : Nat} {syms : Int} {t : Ac} (hr : Rd (kTr fAc) w B t.kids) (hall : t.All (nodeOk syms)) (hcn : t.cnt ≤ 1099511627776) (ih : ∀ t' ∈ t.kids, RightsOk t') : Calls Try.prog 37 #[.agg #[.int .i64 t.x.kind, .int .i64 t.x.at_, .string t.x.name, .slice B t.kids.length k], .int .i64 syms] w fun e w' => ∃ v, e = .returned v ∧ v = .bool true ∧ Holds w [] w' := by
  obtain ⟨hn, hks⟩ := (Tr.All_eq t).1 hall
  have hcnt := Tr.cnt_eq t
  have hkl := Tr.cnts_len t.kids
  refine calls_of Try.func37 rfl Try.ntmps37 rfl ?_
  have H := Holds.start w
  refine wcR ?_
  refine wl_box (cs := [_, _, _, _]) H rfl rfl rfl ?_
  intro b2 w1 hb2 H2
  refine wA ?_
  refine wl_nil ?_
  refine wc_seq ?_
  refine wc_cut (σ := Unit) (fun q => [(1, .int .i64 syms), (2, .pointer (some ⟨b2, 0, none⟩)), (25, .bool false)]) (fun q W => Holds w [Blk b2 69 [.int .i64 t.x.kind, .int .i64 t.x.at_, .string t.x.name, .slice B t.kids.length k]] W) ?_ ?_
  rotate_left
  ·rintro ⟨⟩ Wm H
   refine wc_cond_f rfl ?_
   refine wc_skip ?_
   refine wc_seq ?_
   refine wcR ?_
   refine wV (v_fb (o2 := 3) fa69_3 rfl rfl) ?_
   refine wV (v_load one67 rfl (H.at (by repeat constructor) rfl)) ?_
   refine wV (v_len Try.underlying67 rfl) ?_
   refine wM ?_
   refine wl_nil ?_
   refine wc_block ?_
   refine wc_loop (σ := Nat) (fun s => [(1, .int .i64 syms), (2, .pointer (some ⟨b2, 0, none⟩)), (27, .slice B t.kids.length k), (28, .int .i64 t.kids.length), (29, .int .i64 s)]) (fun s W => s ≤ t.kids.length ∧ Holds w [Blk b2 69 [.int .i64 t.x.kind, .int .i64 t.x.at_, .string t.x.name, .slice B t.kids.length k]] W) (fun s => t.kids.length - s) 0 (sc rfl (sc rfl (sc rfl (sc rfl (sc rfl (sn _)))))) ⟨Nat.zero_le _, H⟩ ?_
   rintro i W0 ⟨hi, H⟩
   refine wcR ?_
   refine wV (v_lss rfl rfl) ?_
   refine wl_nil ?_
   refine wc_seq ?_
   refine wc_cond rfl (fun c1 => ?_) (fun c1 => ?_)
   rotate_left
   ·have c1p := oF c1
    refine wc_exit ?_
    refine wcR ?_
    refine wA ?_
    refine wl_nil ?_
    refine wc_ret ?_
    exact ⟨_, res1 rfl rfl, rfl, H.pm (Pm.nil _)⟩
   have c1p := oT c1
   refine wc_skip ?_
   refine wc_seq ?_
   refine wc_block ?_
   refine wcR ?_
   refine wV (v_idx Try.underlying67 sz69 hr.ad rfl rfl (by omega) (by omega)) ?_
   obtain ⟨B32_, k32_, hc32_, hl32_, hr32_⟩ := hr.atTr ac0 (i := i) (by omega)
   refine wV (v_loadN (cs := [.int .i64 (t.kids.getD i ac0).x.kind, .int .i64 (t.kids.getD i ac0).x.at_, .string (t.kids.getD i ac0).x.name, .slice B32_ (t.kids.getD i ac0).kids.length k32_]) agg69 rfl rfl (fun q_ u_ hu_ => H.cell (hc32_ q_ u_ hu_))) ?_
   refine wl_alloc (cs := [.int .i64 0, .int .i64 0, .string ⟨#[]⟩, .slice none 0 0]) H rfl zv69 rfl ?_
   intro b6 w6 hb6 H7
   refine wl_store (vs := [_, _, _, _]) H7 (by repeat constructor) sz69 rfl rfl rfl rfl rfl (by (repeat constructor)) ?_
   intro w8 H9 hw8
   refine wl_nil ?_
   refine wcR ?_
   refine wV (v_loadN agg69 rfl rfl (H9.ats (by repeat constructor))) ?_
   refine wM ?_
   refine wl_call en37 rfl rfl (ih _ (getD_mem (z := ac0) (show i < t.kids.length by omega)) _ _ _ syms (hr32_.below H9.old) (Tr.Alls_at ac0 (by omega) hks) (by have h_ := Tr.cnts_succ ac0 t.kids i (by omega); have h2_ := Tr.cnts_take t.kids (i + 1); omega)) ?_
   rintro _ w10 ⟨rfl, Hc⟩
   have H11 := H9.call0 Hc
   refine wV (v_not rfl) ?_
   refine wl_nil ?_
   refine wc_cond_f rfl ?_
   refine wc_skip ?_
   refine wc_region ?_
   refine wV (v_addi rfl rfl (by omega)) ?_
   refine wM ?_
   refine wl_nil ?_
   exact ⟨i + 1, (sc rfl (sc rfl (sc rfl (sc rfl (sc rfl (sn _)))))), ⟨by omega, H11.pm (by repeat constructor)⟩, by omega⟩
  refine wc_region ?_
  refine wV (v_loadN agg69 rfl rfl (H2.ats (by repeat constructor))) ?_
  refine wl_call en63 rfl rfl (plain_calls hn) ?_
  rintro _ w3 ⟨rfl, Hc⟩
  have H4 := H2.call0 Hc
  refine wV (v_not rfl) ?_
  refine wM ?_
  refine wO rfl ?_
  refine wV (v_fb (o2 := 0) fa69_0 rfl rfl) ?_
  refine wO rfl ?_
  refine wV (v_load one3 rfl (H4.at (by repeat constructor) rfl)) ?_
  refine wO rfl ?_
  refine wV (v_eql rfl rfl) ?_
  refine wO rfl ?_
  refine wM ?_
  refine wl_guard rfl rfl rfl (fun g14 => ?_) (fun g14 => ?_)
  rotate_left
  ·have g14p := oF g14
   refine wF g14 ?_
   refine wF g14 ?_
   refine wF g14 ?_
   refine wl_offu rfl rfl rfl ?_
   refine wl_offu rfl rfl rfl ?_
   refine wl_offu rfl rfl rfl ?_
   refine wl_offu rfl rfl rfl ?_
   refine wF g14 ?_
   refine wO rfl ?_
   refine wV (v_pick_f rfl g14 rfl) ?_
   refine wV (v_pick_f rfl rfl rfl) ?_
   refine wl_nil ?_
   first
     | exact ⟨(), (sc rfl (sc rfl (sc rfl (sn _)))), H4.pm (by repeat constructor)⟩
     | (have e_ : (decide (t.x.at_ ≥ syms)) = false := decide_eq_false (by unfold nodeOk at hn; omega)
        rw [e_]
        exact ⟨(), (sc rfl (sc rfl (sc rfl (sn _)))), H4.pm (by repeat constructor)⟩)
     | exact absurd hn (by unfold nodeOk; omega)
  have g14p := oT g14
  refine wV (v_fb (o2 := 1) fa69_1 rfl rfl) ?_
  refine wO g14 ?_
  refine wV (v_load one3 rfl (H4.at (by repeat constructor) rfl)) ?_
  refine wO g14 ?_
  refine wV (v_lss rfl rfl) ?_
  refine wO g14 ?_
  refine wM ?_
  refine wl_guard rfl rfl rfl (fun g18 => ?_) (fun g18 => ?_)
  rotate_left
  ·have g18p := oT g18
   refine wF g18 ?_
   refine wF g18 ?_
   refine wF g18 ?_
   refine wO g14 ?_
   refine wV (v_pick_t rfl g18 rfl) ?_
   refine wO rfl ?_
   refine wV (v_pick_t rfl g14 rfl) ?_
   refine wV (v_pick_f rfl rfl rfl) ?_
   refine wl_nil ?_
   first
     | exact ⟨(), (sc rfl (sc rfl (sc rfl (sn _)))), H4.pm (by repeat constructor)⟩
     | (have e_ : (decide (t.x.at_ ≥ syms)) = false := decide_eq_false (by unfold nodeOk at hn; omega)
        rw [e_]
        exact ⟨(), (sc rfl (sc rfl (sc rfl (sn _)))), H4.pm (by repeat constructor)⟩)
     | exact absurd hn (by unfold nodeOk; omega)
  have g18p := oF g18
  refine wV (v_fb (o2 := 1) fa69_1 rfl rfl) ?_
  refine wO g18 ?_
  refine wV (v_load one3 rfl (H4.at (by repeat constructor) rfl)) ?_
  refine wO g18 ?_
  refine wM ?_
  refine wO g18 ?_
  refine wV (v_geq rfl rfl) ?_
  refine wO g14 ?_
  refine wV (v_pick_f rfl g18 rfl) ?_
  refine wO rfl ?_
  refine wV (v_pick_t rfl g14 rfl) ?_
  refine wV (v_pick_f rfl rfl rfl) ?_
  refine wl_nil ?_
  first
    | exact ⟨(), (sc rfl (sc rfl (sc rfl (sn _)))), H4.pm (by repeat constructor)⟩
    | (have e_ : (decide (t.x.at_ ≥ syms)) = false := decide_eq_false (by unfold nodeOk at hn; omega)
       rw [e_]
       exact ⟨(), (sc rfl (sc rfl (sc rfl (sn _)))), H4.pm (by repeat constructor)⟩)
    | exact absurd hn (by unfold nodeOk; omega)

theorem rights_calls : ∀ t : Ac, RightsOk t := Tr.ind fun x kids ih => fun w B k syms hr hall hcn => rights_step (t := .mk x kids) hr hall hcn ih
theorem look_bool (f : Int → Option Bool) (i : Int) : ((f i).map Value.bool).getD (.bool false) = .bool ((f i).getD false) := by cases f i <;> rfl

set_option maxHeartbeats 6400000 in
set_option maxRecDepth 100000 in
theorem pvalue_calls {g : Pl} {a : PlA} {row : List Int} {w : World} {A B : Option Addr} {k cr : Nat} {d : Dv} (hg : g.ok) (hrg : g.rd w a) (hr : Rd (kTr fDv) w B d.kids) (hR : Rd (kInt .i64) w A row) (hl : row.length ≤ 1099511627776) (hcn : d.cnt ≤ 1099511627776) :
    Calls Try.prog 16 #[.agg #[.slice a.k g.kinds.length a.ck, .slice a.p g.precs.length a.cp, .slice a.r g.rules.length a.cr, .slice a.q g.prods.length a.cq, .int .i64 g.start], .agg #[.int .i64 d.x.prod, .int .i64 d.x.tok, .slice B d.kids.length k], .slice A row.length cr] w fun e w' => ∃ v, e = .returned v ∧ ∃ A' c', v = .tuple #[.agg #[.int .i64 (valR g d row).x.kind, .string (valR g d row).x.name, .int .i64 (valR g d row).x.tok, .slice A' (valR g d row).kids.length c'], .int .i64 (valE g d row)] ∧ Holds w [ORow fNd 24 (.slice A' (valR g d row).kids.length c') (valR g d row).kids] w' := by
  have hgk := hg.k
  have hgr := hg.r
  have hgq := hg.q
  refine calls_of Try.func16 rfl Try.ntmps16 rfl ?_
  have H := Holds.start w
  refine wcR ?_
  refine wl_box (cs := [_, _, _, _, _]) H rfl rfl rfl ?_
  intro b3 w1 hb3 H2
  refine wl_box (cs := [_, _, _]) H2 rfl rfl rfl ?_
  intro b4 w3 hb4 H4
  refine wl_alloc (cs := [.int .i64 0, .string ⟨#[]⟩, .int .i64 0, .slice none 0 0]) H4 rfl zv24 rfl ?_
  intro b6 w5 hb6 H6
  refine wA ?_
  refine wl_nil ?_
  refine wc_seq ?_
  refine wcR ?_
  refine wV (v_loadN agg44 rfl rfl (H6.ats (by repeat constructor))) ?_
  refine wl_call en34 rfl rfl (gcheck_calls (hrg.below H6.old) hg) ?_
  rintro _ w7 ⟨rfl, Hc⟩
  have H8 := H6.call0 Hc
  refine wV (v_neq rfl rfl) ?_
  refine wl_nil ?_
  refine wc_cond rfl (fun c0 => ?_) (fun c0 => ?_)
  ·have c0p := of_nd_t c0
   refine wcR ?_
   refine wV (v_bld ba24 rfl (by repeat constructor)) ?_
   refine wl_store (vs := [_, _, _, _]) H8 (by repeat constructor) sz24 rfl rfl rfl rfl rfl (by (repeat constructor)) ?_
   intro w9 H10 hw9
   refine wA ?_
   refine wl_nil ?_
   refine wc_ret ?_
   first
     | (have q_ := Ax
        obtain ⟨e1_, e2_⟩ := valE_ok hD (show (valD g d).cnt ≤ 65536 by (have e_ := leftN_f (most := 65536) (t := valD g d); omega))
        rw [e1_, e2_]
        exact ⟨_, resc2 rfl rfl (run_loadVarN agg24 rfl (H10.ats (by repeat constructor))) rfl, Ax, cx, rfl, H10.pm (by repeat constructor)⟩)
     | (have q_ := An
        obtain ⟨e1_, e2_⟩ := valE_many hD (show ¬ (valD g d).cnt ≤ 65536 by (have e_ := leftN_t (most := 65536) (t := valD g d); omega))
        rw [e1_, e2_]
        exact ⟨_, resc2 rfl rfl (run_loadVarN agg24 rfl (H10.ats (by repeat constructor))) rfl, none, 0, rfl, (H10.oNil fNd 24).pm (by repeat constructor)⟩)
     | (have q_ := hG
        obtain ⟨e1_, e2_⟩ := valE_none hG (of_ndec (of_n_t c1))
        rw [e1_, e2_]
        exact ⟨_, resc2 rfl rfl (run_loadVarN agg24 rfl (H10.ats (by repeat constructor))) rfl, none, 0, rfl, (H10.oNil fNd 24).pm (by repeat constructor)⟩)
     | (obtain ⟨e1_, e2_⟩ := valE_plain (d := d) (row := row) (show ¬ GOk g from fun hh => (by have h_ := checkG_t hh; omega))
        rw [e1_, e2_]
        exact ⟨_, resc2 rfl rfl (run_loadVarN agg24 rfl (H10.ats (by repeat constructor))) rfl, none, 0, rfl, (H10.oNil fNd 24).pm (by repeat constructor)⟩)
  have c0p := of_nd_f c0
  have hG : GOk g := Classical.byContradiction fun h_ => (by have e_ := checkG_f h_; omega)
  refine wc_skip ?_
  refine wc_seq ?_
  refine wcR ?_
  refine wV (v_loadN agg44 rfl rfl (H8.ats (by repeat constructor))) ?_
  refine wV (v_loadN agg50 rfl rfl (H8.ats (by repeat constructor))) ?_
  refine wM ?_
  refine wl_call en35 rfl rfl (dcheck_calls hg (hrg.below H8.old) (hr.below H8.old) (hR.below H8.old) hl hcn) ?_
  rintro _ w11 ⟨rfl, Hc⟩
  have H12 := H8.call0 Hc
  refine wV (v_not rfl) ?_
  refine wl_nil ?_
  refine wc_cond rfl (fun c1 => ?_) (fun c1 => ?_)
  ·have c1p := of_n_t c1
   refine wcR ?_
   refine wV (v_bld ba24 rfl (by repeat constructor)) ?_
   refine wl_store (vs := [_, _, _, _]) H12 (by repeat constructor) sz24 rfl rfl rfl rfl rfl (by (repeat constructor)) ?_
   intro w13 H14 hw13
   refine wA ?_
   refine wl_nil ?_
   refine wc_ret ?_
   first
     | (have q_ := Ax
        obtain ⟨e1_, e2_⟩ := valE_ok hD (show (valD g d).cnt ≤ 65536 by (have e_ := leftN_f (most := 65536) (t := valD g d); omega))
        rw [e1_, e2_]
        exact ⟨_, resc2 rfl rfl (run_loadVarN agg24 rfl (H14.ats (by repeat constructor))) rfl, Ax, cx, rfl, H14.pm (by repeat constructor)⟩)
     | (have q_ := An
        obtain ⟨e1_, e2_⟩ := valE_many hD (show ¬ (valD g d).cnt ≤ 65536 by (have e_ := leftN_t (most := 65536) (t := valD g d); omega))
        rw [e1_, e2_]
        exact ⟨_, resc2 rfl rfl (run_loadVarN agg24 rfl (H14.ats (by repeat constructor))) rfl, none, 0, rfl, (H14.oNil fNd 24).pm (by repeat constructor)⟩)
     | (have q_ := hG
        obtain ⟨e1_, e2_⟩ := valE_none hG (of_ndec (of_n_t c1))
        rw [e1_, e2_]
        exact ⟨_, resc2 rfl rfl (run_loadVarN agg24 rfl (H14.ats (by repeat constructor))) rfl, none, 0, rfl, (H14.oNil fNd 24).pm (by repeat constructor)⟩)
     | (obtain ⟨e1_, e2_⟩ := valE_plain (d := d) (row := row) (show ¬ GOk g from fun hh => (by have h_ := checkG_t hh; omega))
        rw [e1_, e2_]
        exact ⟨_, resc2 rfl rfl (run_loadVarN agg24 rfl (H14.ats (by repeat constructor))) rfl, none, 0, rfl, (H14.oNil fNd 24).pm (by repeat constructor)⟩)
  have c1p := of_n_f c1
  have hD : DrvOk g d row := of_dec (of_n_f c1)
  have hact := hG.acts
  refine wc_skip ?_
  refine wcR ?_
  refine wl_mkmap KI Value.bool H12 rfl ?_
  intro b8 w15 hb8 H15
  refine wA ?_
  refine wl_nil ?_
  refine wcR ?_
  refine wV (v_loadN agg50 rfl rfl (H15.ats (by repeat constructor))) ?_
  refine wM ?_
  refine wl_call en36 rfl rfl (uses_calls hgq d w _ _ B b8 k 0 (fun _ => none) hr hD.dv (by omega) (H15.turn (A := Mp KI Value.bool b8 0 (fun _ => none)) (by repeat constructor))) ?_
  rintro _ w16 ⟨f2, Hc⟩
  refine wl_nil ?_
  refine wcR ?_
  refine wV (v_bld ba105 rfl (by repeat constructor)) ?_
  refine wl_box (cs := [_]) Hc rfl rfl rfl ?_
  intro b28 w17 hb28 H18
  refine wA ?_
  refine wl_nil ?_
  refine wc_seq ?_
  refine wcR ?_
  refine wV (v_fb (o2 := 3) fa44_3 rfl rfl) ?_
  refine wV (v_load one42 rfl (H18.at (by repeat constructor) rfl)) ?_
  refine wV (v_len Try.underlying42 rfl) ?_
  refine wM ?_
  refine wl_nil ?_
  refine wc_block ?_
  refine wc_loop (σ := Nat × Option Addr × Nat) (fun s => [(3, .pointer (some ⟨b3, 0, none⟩)), (4, .pointer (some ⟨b4, 0, none⟩)), (6, .pointer (some ⟨b6, 0, none⟩)), (7, .int .i64 0), (8, .map (some b8)), (9, .pointer (some ⟨b28, 0, none⟩)), (30, .slice a.q g.prods.length a.cq), (31, .int .i64 g.prods.length), (32, .int .i64 s.1)]) (fun s W => s.1 ≤ g.prods.length ∧ Holds w [Blk b28 105 [.slice s.2.1 ((g.prods.take s.1).map Pr.act).length s.2.2], FRow krFc w no 107 (.slice s.2.1 ((g.prods.take s.1).map Pr.act).length s.2.2) ((g.prods.take s.1).map Pr.act), Mp KI Value.bool b8 (0 + d.cnt) f2, Blk b6 24 [.int .i64 0, .string ⟨#[]⟩, .int .i64 0, .slice none 0 0], Blk b4 50 [.int .i64 d.x.prod, .int .i64 d.x.tok, .slice B d.kids.length k], Blk b3 44 [.slice a.k g.kinds.length a.ck, .slice a.p g.precs.length a.cp, .slice a.r g.rules.length a.cr, .slice a.q g.prods.length a.cq, .int .i64 g.start]] W) (fun s => g.prods.length - s.1) (0, none, 0) (sc rfl (sc rfl (sc rfl (sc rfl (sc rfl (sc rfl (sc rfl (sc rfl (sc rfl (sn _)))))))))) ⟨Nat.zero_le _, (H18.frNil krFc w no 107).pm (by repeat constructor)⟩ ?_
  rintro ⟨i, Az, cz⟩ W0 ⟨hi, H⟩
  dsimp only at hi H ⊢
  refine wcR ?_
  refine wV (v_lss rfl rfl) ?_
  refine wl_nil ?_
  refine wc_seq ?_
  refine wc_cond rfl (fun c2 => ?_) (fun c2 => ?_)
  rotate_left
  ·have c2p := oF c2
   rw [List.take_of_length_le (show g.prods.length ≤ i by omega)] at H
   refine wc_exit ?_
   refine wcR ?_
   refine wM ?_
   refine wV (v_loadN agg50 rfl rfl (H.ats (by repeat constructor))) ?_
   refine wl_call en39 rfl rfl (value_calls hgq hact d _ B Az b28 k cz (by (have h_ := H.ats (b := b28) (cs := [.slice Az (g.prods.map Pr.act).length cz]) (by repeat constructor); rw [List.length_map] at h_; intro j u hu; have h2_ := h_ j u hu; rwa [Addr.add_lit, Nat.zero_add] at h2_)) (H.frRd (d := krFc) (xs := g.prods.map Pr.act) (A := Az) (by repeat constructor)).rd (hr.below H.old) hD.dv hcn) ?_
   rintro _ w38 ⟨An, cn, rfl, Hc⟩
   have H39 := H.callN1 (fun _ h_ => h_.elim) Hc
   refine wl_alloc (cs := [.int .i64 0, .string ⟨#[]⟩, .int .i64 0, .slice none 0 0]) H39 rfl zv24 rfl ?_
   intro b12 w40 hb12 H41
   refine wl_store (vs := [_, _, _, _]) H41 (by repeat constructor) sz24 rfl rfl rfl rfl rfl (by (repeat constructor)) ?_
   intro w42 H43 hw42
   refine wl_nil ?_
   refine wc_seq ?_
   refine wcR ?_
   refine wV (v_loadN agg24 rfl rfl (H43.ats (by repeat constructor))) ?_
   refine wl_call en40 rfl rfl (left_calls (valD g d) _ An cn 65536 (H43.nxRd (t := valD g d) (A := An) (c := cn) (by repeat constructor)) (by omega) (valD_few hact d hD.dv)) ?_
   rintro _ w44 ⟨rfl, Hc⟩
   have H45 := H43.call0 Hc
   refine wV (v_lss rfl rfl) ?_
   refine wl_nil ?_
   refine wc_cond rfl (fun c4 => ?_) (fun c4 => ?_)
   ·have c4p := oT c4
    refine wcR ?_
    refine wV (v_bld ba24 rfl (by repeat constructor)) ?_
    refine wl_store (vs := [_, _, _, _]) H45 (by repeat constructor) sz24 rfl rfl rfl rfl rfl (by (repeat constructor)) ?_
    intro w46 H47 hw46
    refine wA ?_
    refine wl_nil ?_
    refine wc_ret ?_
    first
      | (have q_ := Ax
         obtain ⟨e1_, e2_⟩ := valE_ok hD (show (valD g d).cnt ≤ 65536 by (have e_ := leftN_f (most := 65536) (t := valD g d); omega))
         rw [e1_, e2_]
         exact ⟨_, resc2 rfl rfl (run_loadVarN agg24 rfl (H47.ats (by repeat constructor))) rfl, Ax, cx, rfl, H47.pm (by repeat constructor)⟩)
      | (have q_ := An
         obtain ⟨e1_, e2_⟩ := valE_many hD (show ¬ (valD g d).cnt ≤ 65536 by (have e_ := leftN_t (most := 65536) (t := valD g d); omega))
         rw [e1_, e2_]
         exact ⟨_, resc2 rfl rfl (run_loadVarN agg24 rfl (H47.ats (by repeat constructor))) rfl, none, 0, rfl, (H47.oNil fNd 24).pm (by repeat constructor)⟩)
      | (have q_ := hG
         obtain ⟨e1_, e2_⟩ := valE_none hG (of_ndec (of_n_t c1))
         rw [e1_, e2_]
         exact ⟨_, resc2 rfl rfl (run_loadVarN agg24 rfl (H47.ats (by repeat constructor))) rfl, none, 0, rfl, (H47.oNil fNd 24).pm (by repeat constructor)⟩)
      | (obtain ⟨e1_, e2_⟩ := valE_plain (d := d) (row := row) (show ¬ GOk g from fun hh => (by have h_ := checkG_t hh; omega))
         rw [e1_, e2_]
         exact ⟨_, resc2 rfl rfl (run_loadVarN agg24 rfl (H47.ats (by repeat constructor))) rfl, none, 0, rfl, (H47.oNil fNd 24).pm (by repeat constructor)⟩)
   have c4p := oF c4
   refine wc_skip ?_
   refine wcR ?_
   refine wV (v_loadN agg24 rfl rfl (H45.ats (by repeat constructor))) ?_
   refine wl_call en41 rfl rfl (copied_calls (valD g d) _ An cn (H45.nxRd (t := valD g d) (A := An) (c := cn) (by repeat constructor)) (valD_few hact d hD.dv)) ?_
   rintro _ w48 ⟨Ax, cx, rfl, Hc⟩
   have H49 := H45.call1 Hc
   refine wl_store (vs := [_, _, _, _]) H49 (by repeat constructor) sz24 rfl rfl rfl rfl rfl (by (repeat constructor)) ?_
   intro w50 H51 hw50
   refine wA ?_
   refine wl_nil ?_
   refine wc_ret ?_
   first
     | (have q_ := Ax
        obtain ⟨e1_, e2_⟩ := valE_ok hD (show (valD g d).cnt ≤ 65536 by (have e_ := leftN_f (most := 65536) (t := valD g d); omega))
        rw [e1_, e2_]
        exact ⟨_, resc2 rfl rfl (run_loadVarN agg24 rfl (H51.ats (by repeat constructor))) rfl, Ax, cx, rfl, H51.pm (by repeat constructor)⟩)
     | (have q_ := An
        obtain ⟨e1_, e2_⟩ := valE_many hD (show ¬ (valD g d).cnt ≤ 65536 by (have e_ := leftN_t (most := 65536) (t := valD g d); omega))
        rw [e1_, e2_]
        exact ⟨_, resc2 rfl rfl (run_loadVarN agg24 rfl (H51.ats (by repeat constructor))) rfl, none, 0, rfl, (H51.oNil fNd 24).pm (by repeat constructor)⟩)
     | (have q_ := hG
        obtain ⟨e1_, e2_⟩ := valE_none hG (of_ndec (of_n_t c1))
        rw [e1_, e2_]
        exact ⟨_, resc2 rfl rfl (run_loadVarN agg24 rfl (H51.ats (by repeat constructor))) rfl, none, 0, rfl, (H51.oNil fNd 24).pm (by repeat constructor)⟩)
     | (obtain ⟨e1_, e2_⟩ := valE_plain (d := d) (row := row) (show ¬ GOk g from fun hh => (by have h_ := checkG_t hh; omega))
        rw [e1_, e2_]
        exact ⟨_, resc2 rfl rfl (run_loadVarN agg24 rfl (H51.ats (by repeat constructor))) rfl, none, 0, rfl, (H51.oNil fNd 24).pm (by repeat constructor)⟩)
  have c2p := oT c2
  have hin : i < g.prods.length := by omega
  refine wc_skip ?_
  refine wc_seq ?_
  refine wc_block ?_
  refine wcR ?_
  refine wM ?_
  refine wV (v_idx Try.underlying42 sz73 hrg.q.ad rfl rfl (by omega) (by omega)) ?_
  obtain ⟨R36_, c36_, B36_, k36_, hc36_, hl36_, hR36_, hB36_⟩ := hrg.q.atPr (i := i) (by omega)
  refine wV (v_loadN (cs := [.int .i64 (g.prods.getD i pr0).left, .slice R36_ (g.prods.getD i pr0).right.length c36_, .int .i64 (g.prods.getD i pr0).level, .int .i64 (g.prods.getD i pr0).act.x.kind, .int .i64 (g.prods.getD i pr0).act.x.at_, .string (g.prods.getD i pr0).act.x.name, .slice B36_ (g.prods.getD i pr0).act.kids.length k36_]) agg73 rfl rfl (fun q_ u_ hu_ => H.cell (hc36_ q_ u_ hu_))) ?_
  refine wl_alloc (cs := [.int .i64 0, .slice none 0 0, .int .i64 0, .int .i64 0, .int .i64 0, .string ⟨#[]⟩, .slice none 0 0]) H rfl zv73 rfl ?_
  intro b11 w19 hb11 H20
  refine wA ?_
  refine wl_store (vs := [_, _, _, _, _, _, _]) H20 (by repeat constructor) sz73 rfl rfl rfl rfl rfl (by (repeat constructor)) ?_
  intro w21 H22 hw21
  refine wl_nil ?_
  refine wc_seq ?_
  refine wc_cut (σ := Unit) (fun q => [(3, .pointer (some ⟨b3, 0, none⟩)), (4, .pointer (some ⟨b4, 0, none⟩)), (6, .pointer (some ⟨b6, 0, none⟩)), (7, .int .i64 0), (8, .map (some b8)), (9, .pointer (some ⟨b28, 0, none⟩)), (30, .slice a.q g.prods.length a.cq), (31, .int .i64 g.prods.length), (32, .int .i64 i), (11, .pointer (some ⟨b11, 0, none⟩)), (48, .bool false)]) (fun q W => Holds w [Blk b11 73 [.int .i64 (g.prods.getD i pr0).left, .slice R36_ (g.prods.getD i pr0).right.length c36_, .int .i64 (g.prods.getD i pr0).level, .int .i64 (g.prods.getD i pr0).act.x.kind, .int .i64 (g.prods.getD i pr0).act.x.at_, .string (g.prods.getD i pr0).act.x.name, .slice B36_ (g.prods.getD i pr0).act.kids.length k36_], Blk b28 105 [.slice Az ((g.prods.take i).map Pr.act).length cz], FRow krFc w no 107 (.slice Az ((g.prods.take i).map Pr.act).length cz) ((g.prods.take i).map Pr.act), Mp KI Value.bool b8 (0 + d.cnt) f2, Blk b6 24 [.int .i64 0, .string ⟨#[]⟩, .int .i64 0, .slice none 0 0], Blk b4 50 [.int .i64 d.x.prod, .int .i64 d.x.tok, .slice B d.kids.length k], Blk b3 44 [.slice a.k g.kinds.length a.ck, .slice a.p g.precs.length a.cp, .slice a.r g.rules.length a.cr, .slice a.q g.prods.length a.cq, .int .i64 g.start]] W) ?_ ?_
  ·refine wc_region ?_
   refine wM ?_
   refine wM ?_
   refine wV (v_look' H22 (by repeat constructor) Try.underlying100 zv4 (show KI.ok (i : Int) from wf64 (by unfold I64; omega)) rfl rfl (look_bool _ _)) ?_
   refine wM ?_
   refine wl_guard rfl rfl rfl (fun g40 => ?_) (fun g40 => ?_)
   rotate_left
   ·refine wF g40 ?_
    refine wF g40 ?_
    refine wF g40 ?_
    refine wF g40 ?_
    refine wF g40 ?_
    refine wF g40 ?_
    refine wV (v_pick_f rfl g40 rfl) ?_
    refine wl_nil ?_
    exact ⟨(), (sc rfl (sc rfl (sc rfl (sc rfl (sc rfl (sc rfl (sc rfl (sc rfl (sc rfl (sc rfl (sc rfl (sn _)))))))))))), H22.pm (by repeat constructor)⟩
   refine wV (v_fb (o2 := 3) fa73_3 rfl rfl) ?_
   refine wO g40 ?_
   refine wV (v_loadN (cs := [_, _, _, _]) agg69 rfl rfl (H22.atsN (k := 4) (by repeat constructor) rfl)) ?_
   refine wO g40 ?_
   refine wV (v_fb (o2 := 1) fa73_1 rfl rfl) ?_
   refine wO g40 ?_
   refine wV (v_load one51 rfl (H22.at (by repeat constructor) rfl)) ?_
   refine wO g40 ?_
   refine wV (v_len Try.underlying51 rfl) ?_
   refine wO g40 ?_
   refine wl_call en37 rfl rfl (rights_calls _ _ B36_ k36_ _ (hB36_.below H22.old) (hact i (by omega)).1 (by have := (hact i (by omega)).2; omega)) ?_
   rintro _ w24 ⟨rfl, Hc⟩
   have H25 := H22.call0 Hc
   refine wO g40 ?_
   refine wV (v_not rfl) ?_
   refine wV (v_pick_t rfl g40 rfl) ?_
   refine wl_nil ?_
   exact ⟨(), (sc rfl (sc rfl (sc rfl (sc rfl (sc rfl (sc rfl (sc rfl (sc rfl (sc rfl (sc rfl (sc rfl (sn _)))))))))))), H25.pm (by repeat constructor)⟩
  rintro ⟨⟩ Wm H
  refine wc_cond_f rfl ?_
  refine wc_skip ?_
  refine wc_tree [0, 1, 2, 3, 4, 5, 6] (fun W => Holds w [Blk b11 73 [.int .i64 (g.prods.getD i pr0).left, .slice R36_ (g.prods.getD i pr0).right.length c36_, .int .i64 (g.prods.getD i pr0).level, .int .i64 (g.prods.getD i pr0).act.x.kind, .int .i64 (g.prods.getD i pr0).act.x.at_, .string (g.prods.getD i pr0).act.x.name, .slice B36_ (g.prods.getD i pr0).act.kids.length k36_], Blk b28 105 [.slice Az ((g.prods.take i).map Pr.act).length cz], Blk b4 50 [.int .i64 d.x.prod, .int .i64 d.x.tok, .slice B d.kids.length k], Blk b3 44 [.slice a.k g.kinds.length a.ck, .slice a.p g.precs.length a.cp, .slice a.r g.rules.length a.cr, .slice a.q g.prods.length a.cq, .int .i64 g.start]] W) mixed ?_
  have Hd := H.drew
  have HSd : Holds w [Blk b11 73 [.int .i64 (g.prods.getD i pr0).left, .slice R36_ (g.prods.getD i pr0).right.length c36_, .int .i64 (g.prods.getD i pr0).level, .int .i64 (g.prods.getD i pr0).act.x.kind, .int .i64 (g.prods.getD i pr0).act.x.at_, .string (g.prods.getD i pr0).act.x.name, .slice B36_ (g.prods.getD i pr0).act.kids.length k36_], Blk b28 105 [.slice Az ((g.prods.take i).map Pr.act).length cz], Blk b4 50 [.int .i64 d.x.prod, .int .i64 d.x.tok, .slice B d.kids.length k], Blk b3 44 [.slice a.k g.kinds.length a.ck, .slice a.p g.precs.length a.cp, .slice a.r g.rules.length a.cr, .slice a.q g.prods.length a.cq, .int .i64 g.start]] _ := Hd.pm (by repeat constructor)
  refine wjV (k := 0) rfl HSd (fun W HW => v_move rfl) ?_
  refine wjV (k := 1) rfl HSd (fun W HW => v_move rfl) ?_
  refine wjV (k := 2) rfl HSd (fun W HW => v_nil rfl) ?_
  refine wjV (k := 3) rfl HSd (fun W HW => v_fb (o2 := 0) fa105_0 rfl rfl) ?_
  refine wjV (k := 4) rfl HSd (fun W HW => v_load one103 rfl (HW.at (by repeat constructor) rfl)) ?_
  refine wjV (k := 5) rfl HSd (fun W HW => v_fb (o2 := 3) fa73_3 rfl rfl) ?_
  refine wjV (k := 6) rfl HSd (fun W HW => v_loadN (cs := [_, _, _, _]) agg69 rfl rfl (HW.atsN (k := 4) (by repeat constructor) rfl)) ?_
  refine wj_t (k := 7) rfl (by kernel_rfl) ?_
  refine wl_call en38 rfl rfl (maker_calls (g.prods.getD i pr0).act _ B36_ k36_ hl36_.2 (hB36_.below Hd.old) (by have := (hact i (by omega)).2; omega)) ?_
  rintro vf w26 Hc
  have H27 := Hd.callN1 (fun _ h_ => h_.elim) Hc
  have hvf1 : vf.oneCell' = true := by
    obtain ⟨_, _, v_, hv_, hk_⟩ := Hc.get (A := NX krFc _ no (g.prods.getD i pr0).act [vf]) (.here _ _ _)
    cases hv_
    exact hk_.one
  have HS28 : Holds w [Blk b11 73 [.int .i64 (g.prods.getD i pr0).left, .slice R36_ (g.prods.getD i pr0).right.length c36_, .int .i64 (g.prods.getD i pr0).level, .int .i64 (g.prods.getD i pr0).act.x.kind, .int .i64 (g.prods.getD i pr0).act.x.at_, .string (g.prods.getD i pr0).act.x.name, .slice B36_ (g.prods.getD i pr0).act.kids.length k36_], Blk b28 105 [.slice Az ((g.prods.take i).map Pr.act).length cz], Blk b4 50 [.int .i64 d.x.prod, .int .i64 d.x.tok, .slice B d.kids.length k], Blk b3 44 [.slice a.k g.kinds.length a.ck, .slice a.p g.precs.length a.cp, .slice a.r g.rules.length a.cr, .slice a.q g.prods.length a.cq, .int .i64 g.start]] _ := H27.pm (by repeat constructor)
  refine wl_nil (tn ⟨fun _ => HS28, ?_⟩)
  refine wj_t (k := 8) rfl (by kernel_rfl) ?_
  refine wl_slit (v := .nilFunc) (z := [.nilFunc]) (cs := [vf]) (sz := 1) H27 rfl Try.underlying103 sz107 zv107 (by decide) (by decide) (by kernel_rfl) rfl (.cons (vs := [vf]) rfl (cells_one hvf1) rfl (.here _ (.nil _)) (.nil _)) ?_
  intro b58 w29 hb58 H29 hs29
  have HS30 : Holds w [Blk b11 73 [.int .i64 (g.prods.getD i pr0).left, .slice R36_ (g.prods.getD i pr0).right.length c36_, .int .i64 (g.prods.getD i pr0).level, .int .i64 (g.prods.getD i pr0).act.x.kind, .int .i64 (g.prods.getD i pr0).act.x.at_, .string (g.prods.getD i pr0).act.x.name, .slice B36_ (g.prods.getD i pr0).act.kids.length k36_], Blk b28 105 [.slice Az ((g.prods.take i).map Pr.act).length cz], Blk b4 50 [.int .i64 d.x.prod, .int .i64 d.x.tok, .slice B d.kids.length k], Blk b3 44 [.slice a.k g.kinds.length a.ck, .slice a.p g.precs.length a.cp, .slice a.r g.rules.length a.cr, .slice a.q g.prods.length a.cq, .int .i64 g.start]] _ := H29.pm (by repeat constructor)
  refine wl_nil (tn ⟨fun _ => HS30, ?_⟩)
  refine wj_t (k := 9) rfl (by kernel_rfl) ?_
  refine wl_appF (d := krFc) (cs := [vf]) (x' := (g.prods.getD i pr0).act) H29 (by repeat constructor) (by repeat constructor) (H29.ats (by repeat constructor)) rfl Try.underlying103 info107 rfl (by decide) rfl rfl (by rw [map_take_len _ hi]; omega) (by decide) ?_
  intro A59 c59 w31 H31 hs31
  rw [← map_succ Pr.act pr0 hin] at H31 ⊢
  have HS32 : Holds w [Blk b11 73 [.int .i64 (g.prods.getD i pr0).left, .slice R36_ (g.prods.getD i pr0).right.length c36_, .int .i64 (g.prods.getD i pr0).level, .int .i64 (g.prods.getD i pr0).act.x.kind, .int .i64 (g.prods.getD i pr0).act.x.at_, .string (g.prods.getD i pr0).act.x.name, .slice B36_ (g.prods.getD i pr0).act.kids.length k36_], Blk b28 105 [.slice Az ((g.prods.take i).map Pr.act).length cz], Blk b4 50 [.int .i64 d.x.prod, .int .i64 d.x.tok, .slice B d.kids.length k], Blk b3 44 [.slice a.k g.kinds.length a.ck, .slice a.p g.precs.length a.cp, .slice a.r g.rules.length a.cr, .slice a.q g.prods.length a.cq, .int .i64 g.start]] _ := H31.pm (by repeat constructor)
  refine wl_nil (tn ⟨fun _ => HS32, ?_⟩)
  refine wj_t (k := 10) rfl (by kernel_rfl) ?_
  refine wV (v_nil rfl) ?_
  refine wl_nil (tn ⟨fun hlt => absurd hlt (by rw [show allH _ _ _ = true by kernel_rfl]; simp), ?_⟩)
  refine wj_t (k := 11) rfl (by kernel_rfl) ?_
  refine wV (v_fb (o2 := 0) fa105_0 rfl rfl) ?_
  refine wl_nil (tn ⟨fun hlt => absurd hlt (by rw [show allH _ _ _ = true by kernel_rfl]; simp), ?_⟩)
  refine wj_t (k := 12) rfl (by kernel_rfl) ?_
  refine wl_store (vs := [_]) H31 (by repeat constructor) sz103 rfl rfl rfl rfl rfl (by (repeat constructor)) ?_
  intro w35 H36 hw35
  refine wl_nil (tn ⟨fun hlt => absurd hlt (by rw [show allH _ _ _ = true by kernel_rfl]; simp), ?_⟩)
  refine wj_done (by kernel_rfl) ?_
  refine wc_region ?_
  refine wV (v_addi rfl rfl (by omega)) ?_
  refine wM ?_
  refine wl_nil ?_
  exact ⟨(i + 1, A59, c59), (sc rfl (sc rfl (sc rfl (sc rfl (sc rfl (sc rfl (sc rfl (sc rfl (sc rfl (sn _)))))))))), ⟨by dsimp only; omega, H36.pm (by repeat constructor)⟩, by dsimp only; omega⟩
end Go.Proofs.Ytgdemplcpcacaaa.PValue

/-! What data mean. -/
namespace Go.Proofs.Ytgdemplcpcacaaa.KnownD
open Go Go.RowKit Go.Proofs.YtgdemplcpcacaaaFx Go.Proofs.Ytgdemplcpcacaaa.NameW Go.Proofs.Ytgdemplcpcacaaa.KindsW
theorem agg80 : Agg Try.prog 80 2 := agg_of Try.underlying80 (by kernel_rfl)
theorem agg83 : Agg Try.prog 83 2 := agg_of Try.underlying83 (by kernel_rfl)
theorem ba126 : BuildAt Try.prog 126 [.map none, .map none, .map none] [(0, 1), (1, 1), (2, 1)] := build_at Try.underlying126 (by kernel_rfl) (by kernel_rfl)
theorem en55 : Enters Try.prog 55 := enters Try.func55 (by kernel_rfl) rfl
theorem fa126_0 : FieldAt Try.prog 126 0 0 := field_at (sz := 0) Try.underlying126 rfl (by kernel_rfl) rfl
theorem fa126_1 : FieldAt Try.prog 126 1 1 := field_at (sz := 0) Try.underlying126 rfl (by kernel_rfl) rfl
theorem fa126_2 : FieldAt Try.prog 126 2 2 := field_at (sz := 0) Try.underlying126 rfl (by kernel_rfl) rfl
theorem fa80_0 : FieldAt Try.prog 80 0 0 := field_at (sz := 0) Try.underlying80 rfl (by kernel_rfl) rfl
theorem fa80_1 : FieldAt Try.prog 80 1 1 := field_at (sz := 0) Try.underlying80 rfl (by kernel_rfl) rfl
theorem fa83_0 : FieldAt Try.prog 83 0 0 := field_at (sz := 0) Try.underlying83 rfl (by kernel_rfl) rfl
theorem fa83_1 : FieldAt Try.prog 83 1 1 := field_at (sz := 0) Try.underlying83 rfl (by kernel_rfl) rfl
theorem mixed : Try.prog.follows .mixedOrders = true := by kernel_rfl
theorem one122 : One Try.prog 122 := one_of Try.underlying122 rfl (by kernel_rfl)
theorem one123 : One Try.prog 123 := one_of Try.underlying123 rfl (by kernel_rfl)
theorem one124 : One Try.prog 124 := one_of Try.underlying124 rfl (by kernel_rfl)
theorem one40 : One Try.prog 40 := one_of Try.underlying40 rfl (by kernel_rfl)
theorem one81 : One Try.prog 81 := one_of Try.underlying81 rfl (by kernel_rfl)
theorem one9 : One Try.prog 9 := one_of Try.underlying9 rfl (by kernel_rfl)
theorem sz80 : ∀ W, (sizeOf 80).run Try.prog W = .ok 2 W := size_of (by kernel_rfl)
theorem sz83 : ∀ W, (sizeOf 83).run Try.prog W = .ok 2 W := size_of (by kernel_rfl)
theorem sz9 : ∀ W, (sizeOf 9).run Try.prog W = .ok 1 W := size_of (by kernel_rfl)
theorem zv4 : ∀ W, (zeroValue 4).run Try.prog W = .ok (.bool false) W := zero_of (by kernel_rfl)
theorem zv80 : ∀ W, (zeroValue 80).run Try.prog W = .ok (.agg #[.string ⟨#[]⟩, .slice none 0 0]) W := zero_of (by kernel_rfl)
theorem zv83 : ∀ W, (zeroValue 83).run Try.prog W = .ok (.agg #[.string ⟨#[]⟩, .slice none 0 0]) W := zero_of (by kernel_rfl)

abbrev VId : Value → Value := fun v => v

set_option maxHeartbeats 12800000 in
set_option maxRecDepth 100000 in
theorem known_calls {l : List Dt} {A : Option Addr} {cd : Nat} {w0 w : World} {L : List Ch} (hl : DOk l) (hr : Rd kDt w0 A l) (HH : Holds w0 L w) :
    Calls Try.prog 48 #[.slice A l.length cd] w fun e w' => ∃ v, e = .returned v ∧ ∃ (bd b0 b1 b2 : Nat) (fC : ByteArray → Option Value), v = .tuple #[.pointer (some ⟨bd, 0, none⟩), .int .i64 (dataE l)] ∧ Holds w0 L w' ∧ (dataE l = 0 → CRel w0 (flat l) fC ∧ Holds w0 (Blk bd 126 [.map (some b0), .map (some b1), .map (some b2)] :: Mp KS Value.bool b0 l.length (metF (nms l)) :: Mp KS VId b1 (flat l).length fC :: Mp KS Value.string b2 (flat l).length (ofF (flat l)) :: L) w') := by
  have hll := hl.len
  have hlf := hl.f
  refine calls_of Try.func48 rfl Try.ntmps48 rfl ?_
  have H := HH
  refine wcR ?_
  refine wA ?_
  refine wA ?_
  refine wl_nil ?_
  refine wcR ?_
  refine wl_mkmap KS Value.bool H rfl ?_
  intro b0 w1 hb0 H1
  refine wl_mkmap KS VId H1 rfl ?_
  intro b1 w2 hb1 H2
  refine wl_mkmap KS Value.string H2 rfl ?_
  intro b2 w3 hb2 H3
  refine wV (v_bld ba126 rfl (by repeat constructor)) ?_
  refine wl_box (cs := [.map (some b0), .map (some b1), .map (some b2)]) H3 rfl rfl rfl ?_
  intro bd w4 hbd H4
  refine wA ?_
  refine wl_nil ?_
  refine wc_seq ?_
  refine wcR ?_
  refine wM ?_
  refine wV (v_len Try.underlying45 rfl) ?_
  refine wM ?_
  refine wl_nil ?_
  refine wc_block ?_
  refine wc_loop (σ := Nat × (ByteArray → Option Value)) (fun s => [(0, .slice A l.length cd), (4, .pointer (some ⟨bd, 0, none⟩)), (22, .slice A l.length cd), (23, .int .i64 l.length), (24, .int .i64 s.1)]) (fun s W => (s.1 ≤ l.length ∧ OnceTo l s.1 0 ∧ CRel w0 (upC l s.1 0) s.2) ∧ Holds w0 (Blk bd 126 [.map (some b0), .map (some b1), .map (some b2)] :: Mp KS Value.bool b0 s.1 (metF ((nms l).take s.1)) :: Mp KS VId b1 (upC l s.1 0).length s.2 :: Mp KS Value.string b2 (upC l s.1 0).length (ofF (upC l s.1 0)) :: L) W) (fun s => l.length - s.1) (0, fun _ => none) (sc rfl (sc rfl (sc rfl (sc rfl (sc rfl (sn _)))))) ⟨⟨Nat.zero_le _, OnceTo.start, CRel.nil w0⟩, by rw [metF_nil] at H4; exact H4.pm (by repeat (first | exact pm_refl _ | constructor | refine pm_skip ?_))⟩ ?_
  rintro ⟨i, fC⟩ W0 ⟨⟨hi, hO, hC⟩, H⟩
  dsimp only at hi hO hC H ⊢
  refine wcR ?_
  refine wV (v_lss rfl rfl) ?_
  refine wl_nil ?_
  refine wc_seq ?_
  refine wc_cond rfl (fun c0 => ?_) (fun c0 => ?_)
  rotate_left
  ·have c0p := oF c0
   obtain rfl : i = l.length := by omega
   have hOn := hO.fin (Nat.le_refl _)
   rw [upC_zero, List.take_length] at hC H
   rw [show (nms l).take l.length = nms l from List.take_of_length_le (by rw [nms_len]; exact Nat.le_refl _)] at H
   refine wc_exit ?_
   refine wc_seq ?_
   refine wcR ?_
   refine wM ?_
   refine wV (v_len Try.underlying45 rfl) ?_
   refine wM ?_
   refine wl_nil ?_
   refine wc_block ?_
   refine wc_loop (σ := Nat) (fun s => [(4, .pointer (some ⟨bd, 0, none⟩)), (95, .slice A l.length cd), (96, .int .i64 l.length), (97, .int .i64 s)]) (fun s W => (s ≤ l.length ∧ TypdTo l s 0 0) ∧ Holds w0 (Blk bd 126 [.map (some b0), .map (some b1), .map (some b2)] :: Mp KS Value.bool b0 l.length (metF (nms l)) :: Mp KS VId b1 (flat l).length fC :: Mp KS Value.string b2 (flat l).length (ofF (flat l)) :: L) W) (fun s => l.length - s) 0 (sc rfl (sc rfl (sc rfl (sc rfl (sn _))))) ⟨⟨Nat.zero_le _, TypdTo.start⟩, H.pm (by repeat (first | exact pm_refl _ | constructor | refine pm_skip ?_))⟩ ?_
   rintro i W2 ⟨⟨hi, hT⟩, H⟩
   refine wcR ?_
   refine wV (v_lss rfl rfl) ?_
   refine wl_nil ?_
   refine wc_seq ?_
   refine wc_cond rfl (fun c4 => ?_) (fun c4 => ?_)
   rotate_left
   ·have c4p := oF c4
    refine wc_exit ?_
    refine wcR ?_
    refine wM ?_
    refine wA ?_
    refine wA ?_
    refine wl_nil ?_
    refine wc_ret ?_
    first
      | (have q_ := hT
         have e_ := dataE_t hOn (hT.fin (by omega))
         exact ⟨_, res2 rfl rfl rfl, bd, b0, b1, b2, fC, by rw [e_], H.pm (by repeat (first | exact pm_refl _ | constructor | refine pm_skip ?_)), fun _ => ⟨hC, H.pm (by repeat (first | exact pm_refl _ | constructor | refine pm_skip ?_))⟩⟩)
      | (have q_ := hT
         have e_ := dataE_ty hOn (fun ht => (ht _ (upC_mem hin hjn) _ (getD_mem hqn)).elim (fun h => g117p h) (fun h => of_ndec (of_n_t c7) h))
         exact ⟨_, res2 rfl rfl rfl, bd, b0, b1, b2, fC, by rw [e_], H.pm (by repeat (first | exact pm_refl _ | constructor | refine pm_skip ?_)), fun h => by rw [e_] at h; exact absurd h (by decide)⟩)
      | (have q_ := hjn
         have e_ := dataE_tw (OnceTo.no_ct hin hjn (fun hh => by first | exact of_ndec (of_n_t c3) hh.1 | exact absurd (hq4.symm.trans g71) (by rw [hh.2]; decide)))
         exact ⟨_, res2 rfl rfl rfl, bd, b0, b1, b2, fC, by rw [e_], H.pm (by repeat (first | exact pm_refl _ | constructor | refine pm_skip ?_)), fun h => by rw [e_] at h; exact absurd h (by decide)⟩)
      | (have e_ := dataE_tw (fun ho => by
           have h_ := ho.1 i hin
           first
             | exact of_ndec (g32p) h_.1
             | exact h_.2.1 g37p
             | exact h_.2.2 (by rw [nms_take]; exact of_dec c1))
         exact ⟨_, res2 rfl rfl rfl, bd, b0, b1, b2, fC, by rw [e_], H.pm (by repeat (first | exact pm_refl _ | constructor | refine pm_skip ?_)), fun h => by rw [e_] at h; exact absurd h (by decide)⟩)
   have c4p := oT c4
   have hin : i < l.length := by omega
   have hcl := hl.cl hin
   refine wc_skip ?_
   refine wc_seq ?_
   refine wc_block ?_
   refine wcR ?_
   refine wV (v_idx Try.underlying45 sz83 hr.ad rfl rfl (by omega) (by omega)) ?_
   obtain ⟨R100_, c100_, hc100_, hl100_, hR100_⟩ := hr.atDt (i := i) (by omega)
   refine wV (v_loadN (cs := [.string (l.getD i dt0).name, .slice R100_ (l.getD i dt0).ctors.length c100_]) agg83 rfl rfl (fun q_ u_ hu_ => H.cell (hc100_ q_ u_ hu_))) ?_
   refine wl_alloc (cs := [.string ⟨#[]⟩, .slice none 0 0]) H rfl zv83 rfl ?_
   intro b12 w31 hb12 H32
   refine wl_store (vs := [_, _]) H32 (by repeat constructor) sz83 rfl rfl rfl rfl rfl (by (repeat constructor)) ?_
   intro w33 H34 hw33
   refine wl_nil ?_
   refine wcR ?_
   refine wV (v_fb (o2 := 1) fa83_1 rfl rfl) ?_
   refine wV (v_load one81 rfl (H34.at (by repeat constructor) rfl)) ?_
   refine wV (v_len Try.underlying81 rfl) ?_
   refine wM ?_
   refine wl_nil ?_
   refine wc_block ?_
   refine wc_loop (σ := Nat) (fun s => [(4, .pointer (some ⟨bd, 0, none⟩)), (95, .slice A l.length cd), (96, .int .i64 l.length), (97, .int .i64 i), (102, .slice R100_ (l.getD i dt0).ctors.length c100_), (103, .int .i64 (l.getD i dt0).ctors.length), (104, .int .i64 s)]) (fun s W => (s ≤ (l.getD i dt0).ctors.length ∧ TypdTo l i s 0) ∧ Holds w0 (Blk bd 126 [.map (some b0), .map (some b1), .map (some b2)] :: Mp KS Value.bool b0 l.length (metF (nms l)) :: Mp KS VId b1 (flat l).length fC :: Mp KS Value.string b2 (flat l).length (ofF (flat l)) :: L) W) (fun s => (l.getD i dt0).ctors.length - s) 0 (sc rfl (sc rfl (sc rfl (sc rfl (sc rfl (sc rfl (sc rfl (sn _)))))))) ⟨⟨Nat.zero_le _, hT⟩, H34.pm (by repeat (first | exact pm_refl _ | constructor | refine pm_skip ?_))⟩ ?_
   rintro j W3 ⟨⟨hj, hT⟩, H⟩
   refine wcR ?_
   refine wV (v_lss rfl rfl) ?_
   refine wl_nil ?_
   refine wc_seq ?_
   refine wc_cond rfl (fun c5 => ?_) (fun c5 => ?_)
   rotate_left
   ·have c5p := oF c5
    refine wc_exit ?_
    refine wc_region ?_
    refine wV (v_addi rfl rfl (by omega)) ?_
    refine wM ?_
    refine wl_nil ?_
    exact ⟨i + 1, (sc rfl (sc rfl (sc rfl (sc rfl (sn _))))), ⟨⟨by omega, hT.row hin (by omega)⟩, H.pm (by repeat (first | exact pm_refl _ | constructor | refine pm_skip ?_))⟩, by omega⟩
   have c5p := oT c5
   have hjn : j < (l.getD i dt0).ctors.length := by omega
   have hfl := (hl.up hin hjn).2.1
   refine wc_skip ?_
   refine wc_seq ?_
   refine wc_block ?_
   refine wcR ?_
   refine wV (v_idx Try.underlying81 sz80 hR100_.ad rfl rfl (by omega) (by omega)) ?_
   obtain ⟨R107_, c107_, hc107_, hl107_, hR107_⟩ := hR100_.atCt (i := j) (by omega)
   refine wV (v_loadN (cs := [.string ((l.getD i dt0).ctors.getD j ct0).name, .slice R107_ ((l.getD i dt0).ctors.getD j ct0).fields.length c107_]) agg80 rfl rfl (fun q_ u_ hu_ => H.cell (hc107_ q_ u_ hu_))) ?_
   refine wl_alloc (cs := [.string ⟨#[]⟩, .slice none 0 0]) H rfl zv80 rfl ?_
   intro b14 w35 hb14 H36
   refine wl_store (vs := [_, _]) H36 (by repeat constructor) sz80 rfl rfl rfl rfl rfl (by (repeat constructor)) ?_
   intro w37 H38 hw37
   refine wl_nil ?_
   refine wcR ?_
   refine wV (v_fb (o2 := 1) fa80_1 rfl rfl) ?_
   refine wV (v_load one40 rfl (H38.at (by repeat constructor) rfl)) ?_
   refine wV (v_len Try.underlying40 rfl) ?_
   refine wM ?_
   refine wl_nil ?_
   refine wc_block ?_
   refine wc_loop (σ := Nat) (fun s => [(4, .pointer (some ⟨bd, 0, none⟩)), (95, .slice A l.length cd), (96, .int .i64 l.length), (97, .int .i64 i), (102, .slice R100_ (l.getD i dt0).ctors.length c100_), (103, .int .i64 (l.getD i dt0).ctors.length), (104, .int .i64 j), (109, .slice R107_ ((l.getD i dt0).ctors.getD j ct0).fields.length c107_), (110, .int .i64 ((l.getD i dt0).ctors.getD j ct0).fields.length), (111, .int .i64 s)]) (fun s W => (s ≤ ((l.getD i dt0).ctors.getD j ct0).fields.length ∧ TypdTo l i j s) ∧ Holds w0 (Blk bd 126 [.map (some b0), .map (some b1), .map (some b2)] :: Mp KS Value.bool b0 l.length (metF (nms l)) :: Mp KS VId b1 (flat l).length fC :: Mp KS Value.string b2 (flat l).length (ofF (flat l)) :: L) W) (fun s => ((l.getD i dt0).ctors.getD j ct0).fields.length - s) 0 (sc rfl (sc rfl (sc rfl (sc rfl (sc rfl (sc rfl (sc rfl (sc rfl (sc rfl (sc rfl (sn _))))))))))) ⟨⟨Nat.zero_le _, hT⟩, H38.pm (by repeat (first | exact pm_refl _ | constructor | refine pm_skip ?_))⟩ ?_
   rintro q W4 ⟨⟨hq, hT⟩, H⟩
   refine wcR ?_
   refine wV (v_lss rfl rfl) ?_
   refine wl_nil ?_
   refine wc_seq ?_
   refine wc_cond rfl (fun c6 => ?_) (fun c6 => ?_)
   rotate_left
   ·have c6p := oF c6
    refine wc_exit ?_
    refine wc_region ?_
    refine wV (v_addi rfl rfl (by omega)) ?_
    refine wM ?_
    refine wl_nil ?_
    exact ⟨j + 1, (sc rfl (sc rfl (sc rfl (sc rfl (sc rfl (sc rfl (sc rfl (sn _)))))))), ⟨⟨by omega, hT.ct hjn (by omega)⟩, H.pm (by repeat (first | exact pm_refl _ | constructor | refine pm_skip ?_))⟩, by omega⟩
   have c6p := oT c6
   have hqn : q < ((l.getD i dt0).ctors.getD j ct0).fields.length := by omega
   refine wc_skip ?_
   refine wc_seq ?_
   refine wc_block ?_
   refine wcR ?_
   refine wV (v_idx Try.underlying40 sz9 hR107_.ad rfl rfl (by omega) (by omega)) ?_
   refine wV (v_load one9 rfl (H.cell (hR107_.at1sN (i := q) (by omega)))) ?_
   refine wA ?_
   refine wl_nil ?_
   refine wcR ?_
   refine wM ?_
   refine wV (v_neqs rfl rfl) ?_
   refine wM ?_
   refine wl_guard rfl rfl rfl (fun g117 => ?_) (fun g117 => ?_)
   rotate_left
   ·have g117p := of_nd_f g117
    refine wF g117 ?_
    refine wF g117 ?_
    refine wF g117 ?_
    refine wF g117 ?_
    refine wF g117 ?_
    refine wF g117 ?_
    refine wV (v_pick_f rfl g117 rfl) ?_
    refine wl_nil ?_
    refine wc_cond_f rfl ?_
    refine wc_skip ?_
    refine wc_region ?_
    refine wV (v_addi rfl rfl (by omega)) ?_
    refine wM ?_
    refine wl_nil ?_
    first
      | exact ⟨q + 1, (sc rfl (sc rfl (sc rfl (sc rfl (sc rfl (sc rfl (sc rfl (sc rfl (sc rfl (sc rfl (sn _))))))))))), ⟨⟨by omega, hT.next hqn (.inr (of_dec (of_n_f c7)))⟩, H.pm (by repeat (first | exact pm_refl _ | constructor | refine pm_skip ?_))⟩, by omega⟩
      | exact ⟨q + 1, (sc rfl (sc rfl (sc rfl (sc rfl (sc rfl (sc rfl (sc rfl (sc rfl (sc rfl (sc rfl (sn _))))))))))), ⟨⟨by omega, hT.next hqn (.inl g117p)⟩, H.pm (by repeat (first | exact pm_refl _ | constructor | refine pm_skip ?_))⟩, by omega⟩
   have g117p := of_nd_t g117
   refine wM ?_
   refine wO g117 ?_
   refine wV (v_nil rfl) ?_
   refine wO g117 ?_
   refine wV (v_fb (o2 := 0) fa126_0 rfl rfl) ?_
   refine wO g117 ?_
   refine wV (v_load one122 rfl (H.at (by repeat constructor) rfl)) ?_
   refine wO g117 ?_
   refine wM ?_
   refine wO g117 ?_
   refine wV (v_look' H (by repeat constructor) Try.underlying122 zv4 (show KS.ok (((l.getD i dt0).ctors.getD j ct0).fields.getD q s0) from Nat.le_trans ((hl.up hin hjn).2.2 _ (getD_mem hqn)) (by decide)) rfl rfl (metF_get _ _)) ?_
   refine wO g117 ?_
   refine wV (v_not rfl) ?_
   refine wV (v_pick_t rfl g117 rfl) ?_
   refine wl_nil ?_
   refine wc_cond rfl (fun c7 => ?_) (fun c7 => ?_)
   rotate_left
   ·have c7p := of_n_f c7
    refine wc_skip ?_
    refine wc_region ?_
    refine wV (v_addi rfl rfl (by omega)) ?_
    refine wM ?_
    refine wl_nil ?_
    first
      | exact ⟨q + 1, (sc rfl (sc rfl (sc rfl (sc rfl (sc rfl (sc rfl (sc rfl (sc rfl (sc rfl (sc rfl (sn _))))))))))), ⟨⟨by omega, hT.next hqn (.inr (of_dec (of_n_f c7)))⟩, H.pm (by repeat (first | exact pm_refl _ | constructor | refine pm_skip ?_))⟩, by omega⟩
      | exact ⟨q + 1, (sc rfl (sc rfl (sc rfl (sc rfl (sc rfl (sc rfl (sc rfl (sc rfl (sc rfl (sc rfl (sn _))))))))))), ⟨⟨by omega, hT.next hqn (.inl g117p)⟩, H.pm (by repeat (first | exact pm_refl _ | constructor | refine pm_skip ?_))⟩, by omega⟩
   have c7p := of_n_t c7
   refine wcR ?_
   refine wM ?_
   refine wA ?_
   refine wA ?_
   refine wl_nil ?_
   refine wc_ret ?_
   first
     | (have q_ := hT
        have e_ := dataE_t hOn (hT.fin (by omega))
        exact ⟨_, res2 rfl rfl rfl, bd, b0, b1, b2, fC, by rw [e_], H.pm (by repeat (first | exact pm_refl _ | constructor | refine pm_skip ?_)), fun _ => ⟨hC, H.pm (by repeat (first | exact pm_refl _ | constructor | refine pm_skip ?_))⟩⟩)
     | (have q_ := hT
        have e_ := dataE_ty hOn (fun ht => (ht _ (upC_mem hin hjn) _ (getD_mem hqn)).elim (fun h => g117p h) (fun h => of_ndec (of_n_t c7) h))
        exact ⟨_, res2 rfl rfl rfl, bd, b0, b1, b2, fC, by rw [e_], H.pm (by repeat (first | exact pm_refl _ | constructor | refine pm_skip ?_)), fun h => by rw [e_] at h; exact absurd h (by decide)⟩)
     | (have q_ := hjn
        have e_ := dataE_tw (OnceTo.no_ct hin hjn (fun hh => by first | exact of_ndec (of_n_t c3) hh.1 | exact absurd (hq4.symm.trans g71) (by rw [hh.2]; decide)))
        exact ⟨_, res2 rfl rfl rfl, bd, b0, b1, b2, fC, by rw [e_], H.pm (by repeat (first | exact pm_refl _ | constructor | refine pm_skip ?_)), fun h => by rw [e_] at h; exact absurd h (by decide)⟩)
     | (have e_ := dataE_tw (fun ho => by
          have h_ := ho.1 i hin
          first
            | exact of_ndec (g32p) h_.1
            | exact h_.2.1 g37p
            | exact h_.2.2 (by rw [nms_take]; exact of_dec c1))
        exact ⟨_, res2 rfl rfl rfl, bd, b0, b1, b2, fC, by rw [e_], H.pm (by repeat (first | exact pm_refl _ | constructor | refine pm_skip ?_)), fun h => by rw [e_] at h; exact absurd h (by decide)⟩)
  have c0p := oT c0
  have hin : i < l.length := by omega
  refine wc_skip ?_
  refine wc_seq ?_
  refine wc_block ?_
  refine wcR ?_
  refine wV (v_idx Try.underlying45 sz83 hr.ad rfl rfl (by omega) (by omega)) ?_
  obtain ⟨R27_, c27_, hc27_, hl27_, hR27_⟩ := hr.atDt (i := i) (by omega)
  refine wV (v_loadN (cs := [.string (l.getD i dt0).name, .slice R27_ (l.getD i dt0).ctors.length c27_]) agg83 rfl rfl (fun q_ u_ hu_ => H.cell (hc27_ q_ u_ hu_))) ?_
  refine wl_alloc (cs := [.string ⟨#[]⟩, .slice none 0 0]) H rfl zv83 rfl ?_
  intro b6 w5 hb6 H6
  refine wl_store (vs := [_, _]) H6 (by repeat constructor) sz83 rfl rfl rfl rfl rfl (by (repeat constructor)) ?_
  intro w7 H8 hw7
  refine wl_nil ?_
  refine wc_seq ?_
  refine wc_seq ?_
  refine wc_tree [0, 1, 3, 4, 5, 6, 7, 8, 9, 10, 11, 12, 13, 14, 15, 16, 17] (fun W => Holds w0 (Blk b6 83 [.string (l.getD i dt0).name, .slice R27_ (l.getD i dt0).ctors.length c27_] :: Blk bd 126 [.map (some b0), .map (some b1), .map (some b2)] :: Mp KS Value.bool b0 i (metF ((nms l).take i)) :: Mp KS VId b1 (upC l i 0).length fC :: Mp KS Value.string b2 (upC l i 0).length (ofF (upC l i 0)) :: L) W) mixed ?_
  have Hd := H8.drew
  have HSd : Holds w0 (Blk b6 83 [.string (l.getD i dt0).name, .slice R27_ (l.getD i dt0).ctors.length c27_] :: Blk bd 126 [.map (some b0), .map (some b1), .map (some b2)] :: Mp KS Value.bool b0 i (metF ((nms l).take i)) :: Mp KS VId b1 (upC l i 0).length fC :: Mp KS Value.string b2 (upC l i 0).length (ofF (upC l i 0)) :: L) _ := Hd.pm (by repeat (first | exact pm_refl _ | constructor | refine pm_skip ?_))
  refine wjV (k := 0) rfl HSd (fun W HW => v_fb (o2 := 0) fa83_0 rfl rfl) ?_
  refine wjV (k := 1) rfl HSd (fun W HW => v_load one9 rfl (HW.at (by repeat constructor) rfl)) ?_
  refine wj_t (k := 2) rfl (by kernel_rfl) ?_
  refine wl_call en55 rfl rfl (word_calls (hl.nm hin)) ?_
  rintro _ w9 ⟨rfl, Hc⟩
  have H10 := Hd.call0 Hc
  have HS11 : Holds w0 (Blk b6 83 [.string (l.getD i dt0).name, .slice R27_ (l.getD i dt0).ctors.length c27_] :: Blk bd 126 [.map (some b0), .map (some b1), .map (some b2)] :: Mp KS Value.bool b0 i (metF ((nms l).take i)) :: Mp KS VId b1 (upC l i 0).length fC :: Mp KS Value.string b2 (upC l i 0).length (ofF (upC l i 0)) :: L) _ := H10.pm (by repeat (first | exact pm_refl _ | constructor | refine pm_skip ?_))
  refine wl_nil (tn ⟨fun _ => HS11, ?_⟩)
  refine wjV (k := 3) rfl HS11 (fun W HW => v_not rfl) ?_
  refine wjV (k := 4) rfl HS11 (fun W HW => v_move rfl) ?_
  refine wj_guard (dj := 32) rfl (fun g32 => ?_) (fun g32 => ?_)
  ·have g32p := of_n_t g32
   refine wj_off (k := 5) rfl (by kernel_rfl) (fun _ _ _ h => h) rfl rfl g32 HS11 rfl ?_
   refine wj_off (k := 6) rfl (by kernel_rfl) (fun _ _ _ h => h) rfl rfl g32 HS11 rfl ?_
   refine wj_off (k := 7) rfl (by kernel_rfl) (fun _ _ _ h => h) rfl rfl g32 HS11 rfl ?_
   refine wjV (k := 8) rfl HS11 (fun W HW => v_pick_t rfl g32 rfl) ?_
   refine wjV (k := 9) rfl HS11 (fun W HW => v_move rfl) ?_
   refine wj_off (k := 10) rfl (by kernel_rfl) (fun _ _ _ h => h) rfl rfl rfl HS11 rfl ?_
   refine wj_off (k := 11) rfl (by kernel_rfl) (fun _ _ _ h => h) rfl rfl rfl HS11 rfl ?_
   refine wj_off (k := 12) rfl (by kernel_rfl) (fun _ _ _ h => h) rfl rfl rfl HS11 rfl ?_
   refine wj_off (k := 13) rfl (by kernel_rfl) (fun _ _ _ h => h) rfl rfl rfl HS11 rfl ?_
   refine wj_off (k := 14) rfl (by kernel_rfl) (fun _ _ _ h => h) rfl rfl rfl HS11 rfl ?_
   refine wj_off (k := 15) rfl (by kernel_rfl) (fun _ _ _ h => h) rfl rfl rfl HS11 rfl ?_
   refine wj_off (k := 16) rfl (by kernel_rfl) (fun _ _ _ h => h) rfl rfl rfl HS11 rfl ?_
   refine wjV (k := 17) rfl HS11 (fun W HW => v_pick_t rfl rfl rfl) ?_
   refine wj_done (by kernel_rfl) ?_
   refine wc_cond_t rfl ?_
   refine wcR ?_
   refine wM ?_
   refine wA ?_
   refine wA ?_
   refine wl_nil ?_
   refine wc_ret ?_
   first
     | (have q_ := hT
        have e_ := dataE_t hOn (hT.fin (by omega))
        exact ⟨_, res2 rfl rfl rfl, bd, b0, b1, b2, fC, by rw [e_], H10.pm (by repeat (first | exact pm_refl _ | constructor | refine pm_skip ?_)), fun _ => ⟨hC, H10.pm (by repeat (first | exact pm_refl _ | constructor | refine pm_skip ?_))⟩⟩)
     | (have q_ := hT
        have e_ := dataE_ty hOn (fun ht => (ht _ (upC_mem hin hjn) _ (getD_mem hqn)).elim (fun h => g117p h) (fun h => of_ndec (of_n_t c7) h))
        exact ⟨_, res2 rfl rfl rfl, bd, b0, b1, b2, fC, by rw [e_], H10.pm (by repeat (first | exact pm_refl _ | constructor | refine pm_skip ?_)), fun h => by rw [e_] at h; exact absurd h (by decide)⟩)
     | (have q_ := hjn
        have e_ := dataE_tw (OnceTo.no_ct hin hjn (fun hh => by first | exact of_ndec (of_n_t c3) hh.1 | exact absurd (hq4.symm.trans g71) (by rw [hh.2]; decide)))
        exact ⟨_, res2 rfl rfl rfl, bd, b0, b1, b2, fC, by rw [e_], H10.pm (by repeat (first | exact pm_refl _ | constructor | refine pm_skip ?_)), fun h => by rw [e_] at h; exact absurd h (by decide)⟩)
     | (have e_ := dataE_tw (fun ho => by
          have h_ := ho.1 i hin
          first
            | exact of_ndec (g32p) h_.1
            | exact h_.2.1 g37p
            | exact h_.2.2 (by rw [nms_take]; exact of_dec c1))
        exact ⟨_, res2 rfl rfl rfl, bd, b0, b1, b2, fC, by rw [e_], H10.pm (by repeat (first | exact pm_refl _ | constructor | refine pm_skip ?_)), fun h => by rw [e_] at h; exact absurd h (by decide)⟩)
  have g32p := of_n_f g32
  refine wj_vg (k := 5) rfl (by kernel_rfl) (fun _ _ _ h => h) rfl rfl g32 HS11 rfl (fun W HW => v_fb (o2 := 0) fa83_0 rfl rfl) ?_
  refine wj_vg (k := 6) rfl (by kernel_rfl) (fun _ _ _ h => h) rfl rfl g32 HS11 rfl (fun W HW => v_load one9 rfl (HW.at (by repeat constructor) rfl)) ?_
  refine wj_vg (k := 7) rfl (by kernel_rfl) (fun _ _ _ h => h) rfl rfl g32 HS11 rfl (fun W HW => v_eqls rfl rfl) ?_
  refine wjV (k := 8) rfl HS11 (fun W HW => v_pick_f rfl g32 rfl) ?_
  refine wjV (k := 9) rfl HS11 (fun W HW => v_move rfl) ?_
  refine wj_guard (dj := 37) rfl (fun g37 => ?_) (fun g37 => ?_)
  ·have g37p := oT g37
   refine wj_off (k := 10) rfl (by kernel_rfl) (fun _ _ _ h => h) rfl rfl g37 HS11 rfl ?_
   refine wj_off (k := 11) rfl (by kernel_rfl) (fun _ _ _ h => h) rfl rfl g37 HS11 rfl ?_
   refine wj_off (k := 12) rfl (by kernel_rfl) (fun _ _ _ h => h) rfl rfl g37 HS11 rfl ?_
   refine wj_off (k := 13) rfl (by kernel_rfl) (fun _ _ _ h => h) rfl rfl g37 HS11 rfl ?_
   refine wj_off (k := 14) rfl (by kernel_rfl) (fun _ _ _ h => h) rfl rfl g37 HS11 rfl ?_
   refine wj_off (k := 15) rfl (by kernel_rfl) (fun _ _ _ h => h) rfl rfl g37 HS11 rfl ?_
   refine wj_off (k := 16) rfl (by kernel_rfl) (fun _ _ _ h => h) rfl rfl g37 HS11 rfl ?_
   refine wjV (k := 17) rfl HS11 (fun W HW => v_pick_t rfl g37 rfl) ?_
   refine wj_done (by kernel_rfl) ?_
   refine wc_cond_t rfl ?_
   refine wcR ?_
   refine wM ?_
   refine wA ?_
   refine wA ?_
   refine wl_nil ?_
   refine wc_ret ?_
   first
     | (have q_ := hT
        have e_ := dataE_t hOn (hT.fin (by omega))
        exact ⟨_, res2 rfl rfl rfl, bd, b0, b1, b2, fC, by rw [e_], H10.pm (by repeat (first | exact pm_refl _ | constructor | refine pm_skip ?_)), fun _ => ⟨hC, H10.pm (by repeat (first | exact pm_refl _ | constructor | refine pm_skip ?_))⟩⟩)
     | (have q_ := hT
        have e_ := dataE_ty hOn (fun ht => (ht _ (upC_mem hin hjn) _ (getD_mem hqn)).elim (fun h => g117p h) (fun h => of_ndec (of_n_t c7) h))
        exact ⟨_, res2 rfl rfl rfl, bd, b0, b1, b2, fC, by rw [e_], H10.pm (by repeat (first | exact pm_refl _ | constructor | refine pm_skip ?_)), fun h => by rw [e_] at h; exact absurd h (by decide)⟩)
     | (have q_ := hjn
        have e_ := dataE_tw (OnceTo.no_ct hin hjn (fun hh => by first | exact of_ndec (of_n_t c3) hh.1 | exact absurd (hq4.symm.trans g71) (by rw [hh.2]; decide)))
        exact ⟨_, res2 rfl rfl rfl, bd, b0, b1, b2, fC, by rw [e_], H10.pm (by repeat (first | exact pm_refl _ | constructor | refine pm_skip ?_)), fun h => by rw [e_] at h; exact absurd h (by decide)⟩)
     | (have e_ := dataE_tw (fun ho => by
          have h_ := ho.1 i hin
          first
            | exact of_ndec (g32p) h_.1
            | exact h_.2.1 g37p
            | exact h_.2.2 (by rw [nms_take]; exact of_dec c1))
        exact ⟨_, res2 rfl rfl rfl, bd, b0, b1, b2, fC, by rw [e_], H10.pm (by repeat (first | exact pm_refl _ | constructor | refine pm_skip ?_)), fun h => by rw [e_] at h; exact absurd h (by decide)⟩)
  have g37p := oF g37
  refine wj_vg (k := 10) rfl (by kernel_rfl) (fun _ _ _ h => h) rfl rfl g37 HS11 rfl (fun W HW => v_move rfl) ?_
  refine wj_vg (k := 11) rfl (by kernel_rfl) (fun _ _ _ h => h) rfl rfl g37 HS11 rfl (fun W HW => v_nil rfl) ?_
  refine wj_vg (k := 12) rfl (by kernel_rfl) (fun _ _ _ h => h) rfl rfl g37 HS11 rfl (fun W HW => v_fb (o2 := 0) fa126_0 rfl rfl) ?_
  refine wj_vg (k := 13) rfl (by kernel_rfl) (fun _ _ _ h => h) rfl rfl g37 HS11 rfl (fun W HW => v_load one122 rfl (HW.at (by repeat constructor) rfl)) ?_
  refine wj_vg (k := 14) rfl (by kernel_rfl) (fun _ _ _ h => h) rfl rfl g37 HS11 rfl (fun W HW => v_fb (o2 := 0) fa83_0 rfl rfl) ?_
  refine wj_vg (k := 15) rfl (by kernel_rfl) (fun _ _ _ h => h) rfl rfl g37 HS11 rfl (fun W HW => v_load one9 rfl (HW.at (by repeat constructor) rfl)) ?_
  refine wj_vg (k := 16) rfl (by kernel_rfl) (fun _ _ _ h => h) rfl rfl g37 HS11 rfl (fun W HW => v_look' HW (by repeat constructor) Try.underlying122 zv4 (show KS.ok (l.getD i dt0).name from Nat.le_trans (hl.nm hin) (by decide)) rfl rfl (metF_get _ _)) ?_
  refine wjV (k := 17) rfl HS11 (fun W HW => v_pick_f rfl g37 rfl) ?_
  refine wj_done (by kernel_rfl) ?_
  refine wc_cond rfl (fun c1 => ?_) (fun c1 => ?_)
  ·refine wcR ?_
   refine wM ?_
   refine wA ?_
   refine wA ?_
   refine wl_nil ?_
   refine wc_ret ?_
   first
     | (have q_ := hT
        have e_ := dataE_t hOn (hT.fin (by omega))
        exact ⟨_, res2 rfl rfl rfl, bd, b0, b1, b2, fC, by rw [e_], H10.pm (by repeat (first | exact pm_refl _ | constructor | refine pm_skip ?_)), fun _ => ⟨hC, H10.pm (by repeat (first | exact pm_refl _ | constructor | refine pm_skip ?_))⟩⟩)
     | (have q_ := hT
        have e_ := dataE_ty hOn (fun ht => (ht _ (upC_mem hin hjn) _ (getD_mem hqn)).elim (fun h => g117p h) (fun h => of_ndec (of_n_t c7) h))
        exact ⟨_, res2 rfl rfl rfl, bd, b0, b1, b2, fC, by rw [e_], H10.pm (by repeat (first | exact pm_refl _ | constructor | refine pm_skip ?_)), fun h => by rw [e_] at h; exact absurd h (by decide)⟩)
     | (have q_ := hjn
        have e_ := dataE_tw (OnceTo.no_ct hin hjn (fun hh => by first | exact of_ndec (of_n_t c3) hh.1 | exact absurd (hq4.symm.trans g71) (by rw [hh.2]; decide)))
        exact ⟨_, res2 rfl rfl rfl, bd, b0, b1, b2, fC, by rw [e_], H10.pm (by repeat (first | exact pm_refl _ | constructor | refine pm_skip ?_)), fun h => by rw [e_] at h; exact absurd h (by decide)⟩)
     | (have e_ := dataE_tw (fun ho => by
          have h_ := ho.1 i hin
          first
            | exact of_ndec (g32p) h_.1
            | exact h_.2.1 g37p
            | exact h_.2.2 (by rw [nms_take]; exact of_dec c1))
        exact ⟨_, res2 rfl rfl rfl, bd, b0, b1, b2, fC, by rw [e_], H10.pm (by repeat (first | exact pm_refl _ | constructor | refine pm_skip ?_)), fun h => by rw [e_] at h; exact absurd h (by decide)⟩)
  have hdt : dtOk l i := ⟨of_dec g32p, g37p, by rw [nms_take]; exact of_ndec c1⟩
  have hcl := hl.cl hin
  refine wc_skip ?_
  refine wc_seq ?_
  refine wc_tree [0, 1, 2, 3, 4, 5] (fun W => Holds w0 (Blk b6 83 [.string (l.getD i dt0).name, .slice R27_ (l.getD i dt0).ctors.length c27_] :: Blk bd 126 [.map (some b0), .map (some b1), .map (some b2)] :: L) W) mixed ?_
  have Hd := H10.drew
  have HSd : Holds w0 (Blk b6 83 [.string (l.getD i dt0).name, .slice R27_ (l.getD i dt0).ctors.length c27_] :: Blk bd 126 [.map (some b0), .map (some b1), .map (some b2)] :: L) _ := Hd.pm (by repeat (first | exact pm_refl _ | constructor | refine pm_skip ?_))
  refine wjV (k := 0) rfl HSd (fun W HW => v_move rfl) ?_
  refine wjV (k := 1) rfl HSd (fun W HW => v_nil rfl) ?_
  refine wjV (k := 2) rfl HSd (fun W HW => v_fb (o2 := 0) fa126_0 rfl rfl) ?_
  refine wjV (k := 3) rfl HSd (fun W HW => v_load one122 rfl (HW.at (by repeat constructor) rfl)) ?_
  refine wjV (k := 4) rfl HSd (fun W HW => v_fb (o2 := 0) fa83_0 rfl rfl) ?_
  refine wjV (k := 5) rfl HSd (fun W HW => v_load one9 rfl (HW.at (by repeat constructor) rfl)) ?_
  refine wj_t (k := 6) rfl (by kernel_rfl) ?_
  refine wl_mapset (Kk := KS) (enc := Value.bool) (b := b0) (kx := (l.getD i dt0).name) (vx := true) Hd (by repeat constructor) Try.underlying122 (show KS.ok (l.getD i dt0).name from Nat.le_trans (hl.nm hin) (by decide)) (by unfold maxLen; omega) rfl rfl rfl ?_
  intro w12 H12
  refine wl_nil (tn ⟨fun hlt => absurd hlt (by rw [show allH _ _ _ = true by kernel_rfl]; simp), ?_⟩)
  refine wj_done (by kernel_rfl) ?_
  refine wcR ?_
  refine wV (v_fb (o2 := 1) fa83_1 rfl rfl) ?_
  refine wV (v_load one81 rfl (H12.at (by repeat constructor) rfl)) ?_
  refine wV (v_len Try.underlying81 rfl) ?_
  refine wM ?_
  refine wl_nil ?_
  refine wc_block ?_
  refine wc_loop (σ := Nat × (ByteArray → Option Value)) (fun s => [(0, .slice A l.length cd), (4, .pointer (some ⟨bd, 0, none⟩)), (6, .pointer (some ⟨b6, 0, none⟩)), (22, .slice A l.length cd), (23, .int .i64 l.length), (24, .int .i64 i), (54, .slice R27_ (l.getD i dt0).ctors.length c27_), (55, .int .i64 (l.getD i dt0).ctors.length), (56, .int .i64 s.1)]) (fun s W => (s.1 ≤ (l.getD i dt0).ctors.length ∧ OnceTo l i s.1 ∧ CRel w0 (upC l i s.1) s.2) ∧ Holds w0 (Blk b6 83 [.string (l.getD i dt0).name, .slice R27_ (l.getD i dt0).ctors.length c27_] :: Blk bd 126 [.map (some b0), .map (some b1), .map (some b2)] :: Mp KS Value.bool b0 (i + 1) (metF ((nms l).take (i + 1))) :: Mp KS VId b1 (upC l i s.1).length s.2 :: Mp KS Value.string b2 (upC l i s.1).length (ofF (upC l i s.1)) :: L) W) (fun s => (l.getD i dt0).ctors.length - s.1) (0, fC) (sc rfl (sc rfl (sc rfl (sc rfl (sc rfl (sc rfl (sc rfl (sc rfl (sc rfl (sn _)))))))))) ⟨⟨Nat.zero_le _, hO, hC⟩, by rw [metF_nms hin] at H12; exact H12.pm (by repeat (first | exact pm_refl _ | constructor | refine pm_skip ?_))⟩ ?_
  rintro ⟨j, fC⟩ W1 ⟨⟨hj, hO, hC⟩, H⟩
  dsimp only at hj hO hC H ⊢
  refine wcR ?_
  refine wV (v_lss rfl rfl) ?_
  refine wl_nil ?_
  refine wc_seq ?_
  refine wc_cond rfl (fun c2 => ?_) (fun c2 => ?_)
  rotate_left
  ·have c2p := oF c2
   refine wc_exit ?_
   refine wc_region ?_
   refine wV (v_addi rfl rfl (by omega)) ?_
   refine wM ?_
   refine wl_nil ?_
   have hup := upC_next (l := l) (i := i) (j := j) hin (by omega)
   exact ⟨(i + 1, fC), (sc rfl (sc rfl (sc rfl (sc rfl (sc rfl (sn _)))))), ⟨⟨by dsimp only; omega, hO.row hin (by omega) hdt, by dsimp only; rw [hup]; exact hC⟩, by dsimp only; rw [hup]; exact H.pm (by repeat (first | exact pm_refl _ | constructor | refine pm_skip ?_))⟩, by dsimp only; omega⟩
  have c2p := oT c2
  have hjn : j < (l.getD i dt0).ctors.length := by omega
  refine wc_skip ?_
  refine wc_seq ?_
  refine wc_block ?_
  refine wcR ?_
  refine wV (v_idx Try.underlying81 sz80 hR27_.ad rfl rfl (by omega) (by omega)) ?_
  obtain ⟨R59_, c59_, hc59_, hl59_, hR59_⟩ := hR27_.atCt (i := j) (by omega)
  refine wV (v_loadN (cs := [.string ((l.getD i dt0).ctors.getD j ct0).name, .slice R59_ ((l.getD i dt0).ctors.getD j ct0).fields.length c59_]) agg80 rfl rfl (fun q_ u_ hu_ => H.cell (hc59_ q_ u_ hu_))) ?_
  refine wl_alloc (cs := [.string ⟨#[]⟩, .slice none 0 0]) H rfl zv80 rfl ?_
  intro b8 w14 hb8 H15
  refine wl_store (vs := [_, _]) H15 (by repeat constructor) sz80 rfl rfl rfl rfl rfl (by (repeat constructor)) ?_
  intro w16 H17 hw16
  refine wl_nil ?_
  refine wc_seq ?_
  refine wc_seq ?_
  refine wc_tree [0, 1, 2, 3, 4, 5, 6, 7, 8, 9] (fun W => Holds w0 (Blk b8 80 [.string ((l.getD i dt0).ctors.getD j ct0).name, .slice R59_ ((l.getD i dt0).ctors.getD j ct0).fields.length c59_] :: Blk b6 83 [.string (l.getD i dt0).name, .slice R27_ (l.getD i dt0).ctors.length c27_] :: Blk bd 126 [.map (some b0), .map (some b1), .map (some b2)] :: Mp KS Value.bool b0 (i + 1) (metF ((nms l).take (i + 1))) :: Mp KS VId b1 (upC l i j).length fC :: Mp KS Value.string b2 (upC l i j).length (ofF (upC l i j)) :: L) W) mixed ?_
  have Hd := H17.drew
  have HSd : Holds w0 (Blk b8 80 [.string ((l.getD i dt0).ctors.getD j ct0).name, .slice R59_ ((l.getD i dt0).ctors.getD j ct0).fields.length c59_] :: Blk b6 83 [.string (l.getD i dt0).name, .slice R27_ (l.getD i dt0).ctors.length c27_] :: Blk bd 126 [.map (some b0), .map (some b1), .map (some b2)] :: Mp KS Value.bool b0 (i + 1) (metF ((nms l).take (i + 1))) :: Mp KS VId b1 (upC l i j).length fC :: Mp KS Value.string b2 (upC l i j).length (ofF (upC l i j)) :: L) _ := Hd.pm (by repeat (first | exact pm_refl _ | constructor | refine pm_skip ?_))
  refine wjV (k := 0) rfl HSd (fun W HW => v_move rfl) ?_
  refine wjV (k := 1) rfl HSd (fun W HW => v_nil rfl) ?_
  refine wjV (k := 2) rfl HSd (fun W HW => v_fb (o2 := 1) fa126_1 rfl rfl) ?_
  refine wjV (k := 3) rfl HSd (fun W HW => v_load one123 rfl (HW.at (by repeat constructor) rfl)) ?_
  refine wjV (k := 4) rfl HSd (fun W HW => v_fb (o2 := 0) fa80_0 rfl rfl) ?_
  refine wjV (k := 5) rfl HSd (fun W HW => v_load one9 rfl (HW.at (by repeat constructor) rfl)) ?_
  obtain ⟨q9, A9, k9, hq1, hq2, hq3, hq4, hq5⟩ := hC.look ((l.getD i dt0).ctors.getD j ct0).name
  refine wjV (k := 6) rfl HSd (fun W HW => v_look_okE HW (by repeat constructor) Try.underlying123 zv80 (show KS.ok ((l.getD i dt0).ctors.getD j ct0).name from Nat.le_trans (hl.up hin hjn).1 (by decide)) rfl rfl hq1) ?_
  refine wjV (k := 7) rfl HSd (fun W HW => v_move rfl) ?_
  refine wjV (k := 8) rfl HSd (fun W HW => v_extract rfl rfl) ?_
  refine wjV (k := 9) rfl HSd (fun W HW => v_extract rfl rfl) ?_
  refine wj_t (k := 10) rfl (by kernel_rfl) ?_
  refine wl_alloc (cs := [.string ⟨#[]⟩, .slice none 0 0]) Hd rfl zv80 rfl ?_
  intro b9 w18 hb9 H19
  have HS20 : Holds w0 (Blk b8 80 [.string ((l.getD i dt0).ctors.getD j ct0).name, .slice R59_ ((l.getD i dt0).ctors.getD j ct0).fields.length c59_] :: Blk b6 83 [.string (l.getD i dt0).name, .slice R27_ (l.getD i dt0).ctors.length c27_] :: Blk bd 126 [.map (some b0), .map (some b1), .map (some b2)] :: Mp KS Value.bool b0 (i + 1) (metF ((nms l).take (i + 1))) :: Mp KS VId b1 (upC l i j).length fC :: Mp KS Value.string b2 (upC l i j).length (ofF (upC l i j)) :: L) _ := H19.pm (by repeat (first | exact pm_refl _ | constructor | refine pm_skip ?_))
  refine wl_nil (tn ⟨fun _ => HS20, ?_⟩)
  refine wj_t (k := 11) rfl (by kernel_rfl) ?_
  refine wl_store (vs := [_, _]) H19 (by repeat constructor) sz80 rfl rfl rfl rfl rfl (by (repeat constructor)) ?_
  intro w21 H22 hw21
  have HS23 : Holds w0 (Blk b8 80 [.string ((l.getD i dt0).ctors.getD j ct0).name, .slice R59_ ((l.getD i dt0).ctors.getD j ct0).fields.length c59_] :: Blk b6 83 [.string (l.getD i dt0).name, .slice R27_ (l.getD i dt0).ctors.length c27_] :: Blk bd 126 [.map (some b0), .map (some b1), .map (some b2)] :: Mp KS Value.bool b0 (i + 1) (metF ((nms l).take (i + 1))) :: Mp KS VId b1 (upC l i j).length fC :: Mp KS Value.string b2 (upC l i j).length (ofF (upC l i j)) :: L) _ := H22.pm (by repeat (first | exact pm_refl _ | constructor | refine pm_skip ?_))
  refine wl_nil (tn ⟨fun _ => HS23, ?_⟩)
  refine wj_t (k := 12) rfl (by kernel_rfl) ?_
  refine wA ?_
  refine wl_nil (tn ⟨fun hlt => absurd hlt (by rw [show allH _ _ _ = true by kernel_rfl]; simp), ?_⟩)
  refine wj_done (by kernel_rfl) ?_
  refine wcR ?_
  refine wM ?_
  refine wM ?_
  refine wl_guard rfl rfl rfl (fun g71 => ?_) (fun g71 => ?_)
  rotate_left
  ·refine wF g71 ?_
   refine wF g71 ?_
   refine wF g71 ?_
   refine wV (v_pick_t rfl g71 rfl) ?_
   refine wl_nil ?_
   refine wc_cond_t rfl ?_
   refine wcR ?_
   refine wM ?_
   refine wA ?_
   refine wA ?_
   refine wl_nil ?_
   refine wc_ret ?_
   first
     | (have q_ := hT
        have e_ := dataE_t hOn (hT.fin (by omega))
        exact ⟨_, res2 rfl rfl rfl, bd, b0, b1, b2, fC, by rw [e_], H22.pm (by repeat (first | exact pm_refl _ | constructor | refine pm_skip ?_)), fun _ => ⟨hC, H22.pm (by repeat (first | exact pm_refl _ | constructor | refine pm_skip ?_))⟩⟩)
     | (have q_ := hT
        have e_ := dataE_ty hOn (fun ht => (ht _ (upC_mem hin hjn) _ (getD_mem hqn)).elim (fun h => g117p h) (fun h => of_ndec (of_n_t c7) h))
        exact ⟨_, res2 rfl rfl rfl, bd, b0, b1, b2, fC, by rw [e_], H22.pm (by repeat (first | exact pm_refl _ | constructor | refine pm_skip ?_)), fun h => by rw [e_] at h; exact absurd h (by decide)⟩)
     | (have q_ := hjn
        have e_ := dataE_tw (OnceTo.no_ct hin hjn (fun hh => by first | exact of_ndec (of_n_t c3) hh.1 | exact absurd (hq4.symm.trans g71) (by rw [hh.2]; decide)))
        exact ⟨_, res2 rfl rfl rfl, bd, b0, b1, b2, fC, by rw [e_], H22.pm (by repeat (first | exact pm_refl _ | constructor | refine pm_skip ?_)), fun h => by rw [e_] at h; exact absurd h (by decide)⟩)
     | (have e_ := dataE_tw (fun ho => by
          have h_ := ho.1 i hin
          first
            | exact of_ndec (g32p) h_.1
            | exact h_.2.1 g37p
            | exact h_.2.2 (by rw [nms_take]; exact of_dec c1))
        exact ⟨_, res2 rfl rfl rfl, bd, b0, b1, b2, fC, by rw [e_], H22.pm (by repeat (first | exact pm_refl _ | constructor | refine pm_skip ?_)), fun h => by rw [e_] at h; exact absurd h (by decide)⟩)
  refine wV (v_fb (o2 := 0) fa80_0 rfl rfl) ?_
  refine wO g71 ?_
  refine wV (v_load one9 rfl (H22.at (by repeat constructor) rfl)) ?_
  refine wO g71 ?_
  refine wl_call en55 rfl rfl (word_calls (hl.up hin hjn).1) ?_
  rintro _ w25 ⟨rfl, Hc⟩
  have H26 := H22.call0 Hc
  refine wO g71 ?_
  refine wV (v_not rfl) ?_
  refine wV (v_pick_f rfl g71 rfl) ?_
  refine wl_nil ?_
  refine wc_cond rfl (fun c3 => ?_) (fun c3 => ?_)
  ·have c3p := of_n_t c3
   refine wcR ?_
   refine wM ?_
   refine wA ?_
   refine wA ?_
   refine wl_nil ?_
   refine wc_ret ?_
   first
     | (have q_ := hT
        have e_ := dataE_t hOn (hT.fin (by omega))
        exact ⟨_, res2 rfl rfl rfl, bd, b0, b1, b2, fC, by rw [e_], H26.pm (by repeat (first | exact pm_refl _ | constructor | refine pm_skip ?_)), fun _ => ⟨hC, H26.pm (by repeat (first | exact pm_refl _ | constructor | refine pm_skip ?_))⟩⟩)
     | (have q_ := hT
        have e_ := dataE_ty hOn (fun ht => (ht _ (upC_mem hin hjn) _ (getD_mem hqn)).elim (fun h => g117p h) (fun h => of_ndec (of_n_t c7) h))
        exact ⟨_, res2 rfl rfl rfl, bd, b0, b1, b2, fC, by rw [e_], H26.pm (by repeat (first | exact pm_refl _ | constructor | refine pm_skip ?_)), fun h => by rw [e_] at h; exact absurd h (by decide)⟩)
     | (have q_ := hjn
        have e_ := dataE_tw (OnceTo.no_ct hin hjn (fun hh => by first | exact of_ndec (of_n_t c3) hh.1 | exact absurd (hq4.symm.trans g71) (by rw [hh.2]; decide)))
        exact ⟨_, res2 rfl rfl rfl, bd, b0, b1, b2, fC, by rw [e_], H26.pm (by repeat (first | exact pm_refl _ | constructor | refine pm_skip ?_)), fun h => by rw [e_] at h; exact absurd h (by decide)⟩)
     | (have e_ := dataE_tw (fun ho => by
          have h_ := ho.1 i hin
          first
            | exact of_ndec (g32p) h_.1
            | exact h_.2.1 g37p
            | exact h_.2.2 (by rw [nms_take]; exact of_dec c1))
        exact ⟨_, res2 rfl rfl rfl, bd, b0, b1, b2, fC, by rw [e_], H26.pm (by repeat (first | exact pm_refl _ | constructor | refine pm_skip ?_)), fun h => by rw [e_] at h; exact absurd h (by decide)⟩)
  have c3p := of_n_f c3
  have hcn1 := of_dec (of_n_f c3)
  have hcn2 := opt_none (hq4.symm.trans g71)
  have hul := upC_len (l := l) (i := i) (j := j) hin
  refine wc_skip ?_
  refine wc_seq ?_
  refine wc_tree [0, 1, 2, 3, 4, 5, 6] (fun W => Holds w0 (Blk b8 80 [.string ((l.getD i dt0).ctors.getD j ct0).name, .slice R59_ ((l.getD i dt0).ctors.getD j ct0).fields.length c59_] :: Blk b6 83 [.string (l.getD i dt0).name, .slice R27_ (l.getD i dt0).ctors.length c27_] :: Blk bd 126 [.map (some b0), .map (some b1), .map (some b2)] :: L) W) mixed ?_
  have Hd := H26.drew
  have HSd : Holds w0 (Blk b8 80 [.string ((l.getD i dt0).ctors.getD j ct0).name, .slice R59_ ((l.getD i dt0).ctors.getD j ct0).fields.length c59_] :: Blk b6 83 [.string (l.getD i dt0).name, .slice R27_ (l.getD i dt0).ctors.length c27_] :: Blk bd 126 [.map (some b0), .map (some b1), .map (some b2)] :: L) _ := Hd.pm (by repeat (first | exact pm_refl _ | constructor | refine pm_skip ?_))
  refine wjV (k := 0) rfl HSd (fun W HW => v_move rfl) ?_
  refine wjV (k := 1) rfl HSd (fun W HW => v_nil rfl) ?_
  refine wjV (k := 2) rfl HSd (fun W HW => v_fb (o2 := 1) fa126_1 rfl rfl) ?_
  refine wjV (k := 3) rfl HSd (fun W HW => v_load one123 rfl (HW.at (by repeat constructor) rfl)) ?_
  refine wjV (k := 4) rfl HSd (fun W HW => v_fb (o2 := 0) fa80_0 rfl rfl) ?_
  refine wjV (k := 5) rfl HSd (fun W HW => v_load one9 rfl (HW.at (by repeat constructor) rfl)) ?_
  refine wjV (k := 6) rfl HSd (fun W HW => v_loadN agg80 rfl rfl (HW.ats (by repeat constructor))) ?_
  refine wj_t (k := 7) rfl (by kernel_rfl) ?_
  refine wl_mapset (Kk := KS) (enc := VId) (b := b1) (kx := ((l.getD i dt0).ctors.getD j ct0).name) (vx := .agg #[.string ((l.getD i dt0).ctors.getD j ct0).name, .slice R59_ ((l.getD i dt0).ctors.getD j ct0).fields.length c59_]) Hd (by repeat constructor) Try.underlying123 (show KS.ok ((l.getD i dt0).ctors.getD j ct0).name from Nat.le_trans (hl.up hin hjn).1 (by decide)) (by unfold maxLen; omega) rfl rfl rfl ?_
  intro w27 H27
  refine wl_nil (tn ⟨fun hlt => absurd hlt (by rw [show allH _ _ _ = true by kernel_rfl]; simp), ?_⟩)
  refine wj_done (by kernel_rfl) ?_
  refine wc_tree [0, 1, 2, 3, 4, 5, 6, 7] (fun W => Holds w0 (Blk b8 80 [.string ((l.getD i dt0).ctors.getD j ct0).name, .slice R59_ ((l.getD i dt0).ctors.getD j ct0).fields.length c59_] :: Blk b6 83 [.string (l.getD i dt0).name, .slice R27_ (l.getD i dt0).ctors.length c27_] :: Blk bd 126 [.map (some b0), .map (some b1), .map (some b2)] :: L) W) mixed ?_
  have Hd := H27.drew
  have HSd : Holds w0 (Blk b8 80 [.string ((l.getD i dt0).ctors.getD j ct0).name, .slice R59_ ((l.getD i dt0).ctors.getD j ct0).fields.length c59_] :: Blk b6 83 [.string (l.getD i dt0).name, .slice R27_ (l.getD i dt0).ctors.length c27_] :: Blk bd 126 [.map (some b0), .map (some b1), .map (some b2)] :: L) _ := Hd.pm (by repeat (first | exact pm_refl _ | constructor | refine pm_skip ?_))
  refine wjV (k := 0) rfl HSd (fun W HW => v_move rfl) ?_
  refine wjV (k := 1) rfl HSd (fun W HW => v_nil rfl) ?_
  refine wjV (k := 2) rfl HSd (fun W HW => v_fb (o2 := 2) fa126_2 rfl rfl) ?_
  refine wjV (k := 3) rfl HSd (fun W HW => v_load one124 rfl (HW.at (by repeat constructor) rfl)) ?_
  refine wjV (k := 4) rfl HSd (fun W HW => v_fb (o2 := 0) fa80_0 rfl rfl) ?_
  refine wjV (k := 5) rfl HSd (fun W HW => v_load one9 rfl (HW.at (by repeat constructor) rfl)) ?_
  refine wjV (k := 6) rfl HSd (fun W HW => v_fb (o2 := 0) fa83_0 rfl rfl) ?_
  refine wjV (k := 7) rfl HSd (fun W HW => v_load one9 rfl (HW.at (by repeat constructor) rfl)) ?_
  refine wj_t (k := 8) rfl (by kernel_rfl) ?_
  refine wl_mapset (Kk := KS) (enc := Value.string) (b := b2) (kx := ((l.getD i dt0).ctors.getD j ct0).name) (vx := (l.getD i dt0).name) Hd (by repeat constructor) Try.underlying124 (show KS.ok ((l.getD i dt0).ctors.getD j ct0).name from Nat.le_trans (hl.up hin hjn).1 (by decide)) (by unfold maxLen; omega) rfl rfl rfl ?_
  intro w29 H29
  refine wl_nil (tn ⟨fun hlt => absurd hlt (by rw [show allH _ _ _ = true by kernel_rfl]; simp), ?_⟩)
  refine wj_done (by kernel_rfl) ?_
  refine wc_region ?_
  refine wV (v_addi rfl rfl (by omega)) ?_
  refine wM ?_
  refine wl_nil ?_
  exact ⟨(j + 1, _), (sc rfl (sc rfl (sc rfl (sc rfl (sc rfl (sc rfl (sc rfl (sc rfl (sc rfl (sn _)))))))))), ⟨⟨by dsimp only; omega, hO.next hin hjn hcn1 hcn2, by dsimp only; rw [upC_succ hjn]; exact hC.add hcn2 hl59_ hR59_⟩, by dsimp only; rw [upC_len1 hjn, upC_of hjn hcn2]; exact H29.pm (by repeat (first | exact pm_refl _ | constructor | refine pm_skip ?_))⟩, by dsimp only; omega⟩
end Go.Proofs.Ytgdemplcpcacaaa.KnownD
