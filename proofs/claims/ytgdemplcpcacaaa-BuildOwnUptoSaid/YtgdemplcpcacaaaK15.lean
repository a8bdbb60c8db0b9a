/- The document's values. Whether two nodes are the same. What came in, as it reads. Slices cut. -/
import Derived.Test.YtgdemplcpcacaaaProg
import Derived.Test.YtgdemplcpcacaaaK14
import Derived.Test.YtgdemplcpcacaaaK03
import Derived.Test.YtgdemplcpcacaaaRows
import Derived.Test.YtgdemplcpcacaaaK02
import Derived.WalkKit
import Derived.ProofKit
import Derived.OpenShut
import Derived.JoinedCond
import Derived.Deep.Slices
import Derived.Deep.Strs
import Derived.Lib.SmallJoins
import Derived.Carry
import Derived.WideShapes
set_option linter.unusedVariables false
set_option linter.unusedSimpArgs false
/-! The document's values. -/
namespace Go.Proofs.Ytgdemplcpcacaaa.RValue
open Go Go.RowKit Go.Proofs.YtgdemplcpcacaaaFx Go.Proofs.Ytgdemplcpcacaaa.PartsW Go.Proofs.Ytgdemplcpcacaaa.KindsW Go.Proofs.Ytgdemplcpcacaaa.GramW Go.Proofs.Ytgdemplcpcacaaa.RCheck
theorem agg24 : Agg Try.prog 24 4 := agg_of Try.underlying24 (by kernel_rfl)
theorem agg44 : Agg Try.prog 44 5 := agg_of Try.underlying44 (by kernel_rfl)
theorem agg50 : Agg Try.prog 50 3 := agg_of Try.underlying50 (by kernel_rfl)
theorem agg69 : Agg Try.prog 69 4 := agg_of Try.underlying69 (by kernel_rfl)
theorem ba115 : BuildAt Try.prog 115 [.slice none 0 0, .slice none 0 0, .slice none 0 0, .slice none 0 0, .int .i64 0, .int .i64 0, .int .i64 0] [(0, 5), (5, 1), (6, 1)] := build_at Try.underlying115 (by kernel_rfl) (by kernel_rfl)
theorem ba24 : BuildAt Try.prog 24 [.int .i64 0, .string ⟨#[]⟩, .int .i64 0, .slice none 0 0] [(0, 1), (1, 1), (2, 1), (3, 1)] := build_at Try.underlying24 (by kernel_rfl) (by kernel_rfl)
theorem en42 : Enters Try.prog 42 := enters Try.func42 (by kernel_rfl) rfl
theorem en43 : Enters Try.prog 43 := enters Try.func43 (by kernel_rfl) rfl
theorem en44 : Enters Try.prog 44 := enters Try.func44 (by kernel_rfl) rfl
theorem en45 : Enters Try.prog 45 := enters Try.func45 (by kernel_rfl) rfl
theorem en71 : Enters Try.prog 71 := enters Try.func71 (by kernel_rfl) rfl
theorem en72 : Enters Try.prog 72 := enters Try.func72 (by kernel_rfl) rfl
theorem en73 : Enters Try.prog 73 := enters Try.func73 (by kernel_rfl) rfl
theorem fa115_0 : FieldAt Try.prog 115 0 0 := field_at (sz := 4) Try.underlying115 rfl (by kernel_rfl) rfl
theorem fa115_1 : FieldAt Try.prog 115 1 5 := field_at (sz := 0) Try.underlying115 rfl (by kernel_rfl) rfl
theorem fa115_2 : FieldAt Try.prog 115 2 6 := field_at (sz := 0) Try.underlying115 rfl (by kernel_rfl) rfl
theorem fa24_3 : FieldAt Try.prog 24 3 3 := field_at (sz := 0) Try.underlying24 rfl (by kernel_rfl) rfl
theorem fa44_3 : FieldAt Try.prog 44 3 3 := field_at (sz := 0) Try.underlying44 rfl (by kernel_rfl) rfl
theorem fa50_0 : FieldAt Try.prog 50 0 0 := field_at (sz := 0) Try.underlying50 rfl (by kernel_rfl) rfl
theorem fa50_1 : FieldAt Try.prog 50 1 1 := field_at (sz := 0) Try.underlying50 rfl (by kernel_rfl) rfl
theorem fa50_2 : FieldAt Try.prog 50 2 2 := field_at (sz := 0) Try.underlying50 rfl (by kernel_rfl) rfl
theorem fa69_0 : FieldAt Try.prog 69 0 0 := field_at (sz := 0) Try.underlying69 rfl (by kernel_rfl) rfl
theorem fa69_1 : FieldAt Try.prog 69 1 1 := field_at (sz := 0) Try.underlying69 rfl (by kernel_rfl) rfl
theorem fa69_2 : FieldAt Try.prog 69 2 2 := field_at (sz := 0) Try.underlying69 rfl (by kernel_rfl) rfl
theorem fa69_3 : FieldAt Try.prog 69 3 3 := field_at (sz := 0) Try.underlying69 rfl (by kernel_rfl) rfl
theorem fa73_1 : FieldAt Try.prog 73 1 1 := field_at (sz := 0) Try.underlying73 rfl (by kernel_rfl) rfl
theorem fa73_3 : FieldAt Try.prog 73 3 3 := field_at (sz := 3) Try.underlying73 rfl (by kernel_rfl) rfl
theorem info24 : (Try.prog.info? 24).map (fun i => (i.zero, i.size, i.bytes)) = some (some (.agg #[.int .i64 0, .string ⟨#[]⟩, .int .i64 0, .slice none 0 0]), 4, 56) := by kernel_rfl
theorem mixed : Try.prog.follows .mixedOrders = true := by kernel_rfl
theorem one22 : One Try.prog 22 := one_of Try.underlying22 rfl (by kernel_rfl)
theorem one3 : One Try.prog 3 := one_of Try.underlying3 rfl (by kernel_rfl)
theorem one42 : One Try.prog 42 := one_of Try.underlying42 rfl (by kernel_rfl)
theorem one48 : One Try.prog 48 := one_of Try.underlying48 rfl (by kernel_rfl)
theorem one51 : One Try.prog 51 := one_of Try.underlying51 rfl (by kernel_rfl)
theorem one67 : One Try.prog 67 := one_of Try.underlying67 rfl (by kernel_rfl)
theorem one9 : One Try.prog 9 := one_of Try.underlying9 rfl (by kernel_rfl)
theorem sz115 : ∀ W, (sizeOf 115).run Try.prog W = .ok 7 W := size_of (by kernel_rfl)
theorem sz22 : ∀ W, (sizeOf 22).run Try.prog W = .ok 1 W := size_of (by kernel_rfl)
theorem sz24 : ∀ W, (sizeOf 24).run Try.prog W = .ok 4 W := size_of (by kernel_rfl)
theorem sz3 : ∀ W, (sizeOf 3).run Try.prog W = .ok 1 W := size_of (by kernel_rfl)
theorem sz50 : ∀ W, (sizeOf 50).run Try.prog W = .ok 3 W := size_of (by kernel_rfl)
theorem sz69 : ∀ W, (sizeOf 69).run Try.prog W = .ok 4 W := size_of (by kernel_rfl)
theorem sz73 : ∀ W, (sizeOf 73).run Try.prog W = .ok 7 W := size_of (by kernel_rfl)
theorem zv115 : ∀ W, (zeroValue 115).run Try.prog W = .ok (.agg #[.slice none 0 0, .slice none 0 0, .slice none 0 0, .slice none 0 0, .int .i64 0, .int .i64 0, .int .i64 0]) W := zero_of (by kernel_rfl)
theorem zv24 : ∀ W, (zeroValue 24).run Try.prog W = .ok (.agg #[.int .i64 0, .string ⟨#[]⟩, .int .i64 0, .slice none 0 0]) W := zero_of (by kernel_rfl)

set_option maxRecDepth 100000 in
theorem made_calls {g : Pl} {a : PlA} {w0 w : World} {L : List Ch} {bm : Nat} {made why : Int} (hm : 0 ≤ made ∧ made ≤ 65537) (HH : Holds w0 (Blk bm 115 [.slice a.k g.kinds.length a.ck, .slice a.p g.precs.length a.cp, .slice a.r g.rules.length a.cr, .slice a.q g.prods.length a.cq, .int .i64 g.start, .int .i64 made, .int .i64 why] :: L) w) :
    Calls Try.prog 72 #[.pointer (some ⟨bm, 0, none⟩)] w fun e w' => ∃ v, e = .returned v ∧ ∃ why2, ((65536 < made + 1 ∧ why2 = 213) ∨ (¬ 65536 < made + 1 ∧ why2 = why)) ∧ Holds w0 (Blk bm 115 [.slice a.k g.kinds.length a.ck, .slice a.p g.precs.length a.cp, .slice a.r g.rules.length a.cr, .slice a.q g.prods.length a.cq, .int .i64 g.start, .int .i64 (made + 1), .int .i64 why2] :: L) w' := by
  refine calls_of Try.func72 rfl Try.ntmps72 rfl ?_
  have H := HH
  refine wcR ?_
  refine wM ?_
  refine wV (v_nil rfl) ?_
  refine wV (v_fb (o2 := 5) fa115_1 rfl rfl) ?_
  refine wV (v_load one3 rfl (H.at (by repeat constructor) rfl)) ?_
  refine wV (v_addi rfl rfl (by omega)) ?_
  refine wV (v_nil rfl) ?_
  refine wV (v_fb (o2 := 5) fa115_1 rfl rfl) ?_
  refine wl_store (vs := [_]) H (by repeat constructor) sz3 rfl rfl rfl rfl rfl (by (repeat constructor)) ?_
  intro w1 H2 hw1
  refine wl_nil ?_
  refine wcR ?_
  refine wM ?_
  refine wV (v_nil rfl) ?_
  refine wV (v_fb (o2 := 5) fa115_1 rfl rfl) ?_
  refine wV (v_load one3 rfl (H2.at (by repeat constructor) rfl)) ?_
  refine wV (v_gtr rfl rfl) ?_
  refine wl_nil ?_
  refine wc_cond rfl (fun c0 => ?_) (fun c0 => ?_)
  rotate_left
  ·have c0p := oF c0
   refine wc_skip ?_
   first
     | exact ⟨_, res0 rfl, 213, .inl ⟨by omega, rfl⟩, H2⟩
     | exact ⟨_, res0 rfl, why, .inr ⟨by omega, rfl⟩, H2⟩
  have c0p := oT c0
  refine wc_region ?_
  refine wM ?_
  refine wV (v_nil rfl) ?_
  refine wV (v_fb (o2 := 6) fa115_2 rfl rfl) ?_
  refine wl_store (vs := [_]) H2 (by repeat constructor) sz3 rfl rfl rfl rfl rfl (by (repeat constructor)) ?_
  intro w3 H4 hw3
  refine wl_nil ?_
  first
    | exact ⟨_, res0 rfl, 213, .inl ⟨by omega, rfl⟩, H4⟩
    | exact ⟨_, res0 rfl, why, .inr ⟨by omega, rfl⟩, H4⟩

def RPlainOk (t : Ac) : Prop := ∀ (w : World) (B : Option Addr) (k : Nat) (syms : Int) (hr : Rd (kTr fAc) w B t.kids) (hall : t.All (nodeOk syms)) (hcn : t.cnt ≤ 1099511627776), Calls Try.prog 71 #[.agg #[.int .i64 t.x.kind, .int .i64 t.x.at_, .string t.x.name, .slice B t.kids.length k], .int .i64 syms] w fun e w' => ∃ v, e = .returned v ∧ v = .bool true ∧ Holds w [] w'

set_option maxHeartbeats 3200000 in
set_option maxRecDepth 100000 in
theorem rplain_step {w : World} {B : Option Addr} {k : Nat} {syms : Int} {t : Ac} (hr : Rd (kTr fAc) w B t.kids) (hall : t.All (nodeOk syms)) (hcn : t.cnt ≤ 1099511627776) (ih : ∀ t' ∈ t.kids, RPlainOk t') : Calls Try.prog 71 #[.agg #[.int .i64 t.x.kind, .int .i64 t.x.at_, .string t.x.name, .slice B t.kids.length k], .int .i64 syms] w fun e w' => ∃ v, e = .returned v ∧ v = .bool true ∧ Holds w [] w' := by
  obtain ⟨hn, hks⟩ := (Tr.All_eq t).1 hall
  have hcnt := Tr.cnt_eq t
  have hkl := Tr.cnts_len t.kids
  refine calls_of Try.func71 rfl Try.ntmps71 rfl ?_
  have H := Holds.start w
  refine wcR ?_
  refine wl_box (cs := [_, _, _, _]) H rfl rfl rfl ?_
  intro b2 w1 hb2 H2
  refine wA ?_
  refine wl_nil ?_
  refine wc_seq ?_
  refine wcR ?_
  refine wA ?_
  refine wl_nil ?_
  refine wc_block ?_
  refine wc_loop (σ := Nat) (fun s => [(1, .int .i64 syms), (2, .pointer (some ⟨b2, 0, none⟩)), (5, .int .i64 s)]) (fun s W => s ≤ t.kids.length ∧ Holds w [Blk b2 69 [.int .i64 t.x.kind, .int .i64 t.x.at_, .string t.x.name, .slice B t.kids.length k]] W) (fun s => t.kids.length - s) 0 (sc rfl (sc rfl (sc rfl (sn _)))) ⟨Nat.zero_le _, H2⟩ ?_
  rintro i W0 ⟨hi, H⟩
  refine wc_seq ?_
  refine wcR ?_
  refine wM ?_
  refine wV (v_fb (o2 := 3) fa69_3 rfl rfl) ?_
  refine wV (v_load one67 rfl (H.at (by repeat constructor) rfl)) ?_
  refine wV (v_len Try.underlying67 rfl) ?_
  refine wV (v_lss rfl rfl) ?_
  refine wl_nil ?_
  refine wc_cond rfl (fun c0 => ?_) (fun c0 => ?_)
  ·have c0p := oT c0
   refine wc_skip ?_
   refine wc_seq ?_
   refine wc_block ?_
   refine wcR ?_
   refine wV (v_fb (o2 := 0) fa69_0 rfl rfl) ?_
   refine wV (v_load one3 rfl (H.at (by repeat constructor) rfl)) ?_
   refine wV (v_neq rfl rfl) ?_
   refine wM ?_
   refine wl_guard rfl rfl rfl (fun g16 => ?_) (fun g16 => ?_)
   rotate_left
   ·have g16p := of_nd_t g16
    refine wF g16 ?_
    refine wF g16 ?_
    refine wF g16 ?_
    refine wF g16 ?_
    refine wF g16 ?_
    refine wF g16 ?_
    refine wF g16 ?_
    refine wV (v_pick_t rfl g16 rfl) ?_
    refine wl_nil ?_
    refine wc_cond_t rfl ?_
    refine wcR ?_
    refine wA ?_
    refine wl_nil ?_
    refine wc_ret ?_
    first
      | exact ⟨_, res1 rfl rfl, congrArg Value.bool (decide_eq_true (by unfold nodeOk at hn; omega)), H.pm (Pm.nil _)⟩
      | (have h_ := of_dec (hok.symm.trans c5)
         exact ⟨_, res1 rfl rfl, congrArg Value.bool (decide_eq_true (by unfold nodeOk at hn; omega)), H.pm (Pm.nil _)⟩)
      | (have h_ := of_ndec (hok.symm.trans c5)
         exact absurd hn (by unfold nodeOk; omega))
      | exact absurd hn (by unfold nodeOk; omega)
   have g16p := of_nd_f g16
   refine wV (v_fb (o2 := 3) fa69_3 rfl rfl) ?_
   refine wO g16 ?_
   refine wV (v_load one67 rfl (H.at (by repeat constructor) rfl)) ?_
   refine wO g16 ?_
   refine wM ?_
   refine wO g16 ?_
   refine wV (v_idx Try.underlying67 sz69 hr.ad rfl rfl (by omega) (by omega)) ?_
   refine wO g16 ?_
   obtain ⟨B21_, k21_, hc21_, hl21_, hr21_⟩ := hr.atTr ac0 (i := i) (by omega)
   refine wV (v_loadN (cs := [.int .i64 (t.kids.getD i ac0).x.kind, .int .i64 (t.kids.getD i ac0).x.at_, .string (t.kids.getD i ac0).x.name, .slice B21_ (t.kids.getD i ac0).kids.length k21_]) agg69 rfl rfl (fun q_ u_ hu_ => H.cell (hc21_ q_ u_ hu_))) ?_
   refine wO g16 ?_
   refine wM ?_
   refine wO g16 ?_
   refine wl_call en71 rfl rfl (ih _ (getD_mem (z := ac0) (show i < t.kids.length by omega)) _ _ _ syms (hr21_.below H.old) (Tr.Alls_at ac0 (by omega) hks) (by have h_ := Tr.cnts_succ ac0 t.kids i (by omega); have h2_ := Tr.cnts_take t.kids (i + 1); omega)) ?_
   rintro _ w4 ⟨rfl, Hc⟩
   have H5 := H.call0 Hc
   refine wO g16 ?_
   refine wV (v_not rfl) ?_
   refine wV (v_pick_f rfl g16 rfl) ?_
   refine wl_nil ?_
   refine wc_cond_f rfl ?_
   refine wc_skip ?_
   refine wc_region ?_
   refine wM ?_
   refine wV (v_addi rfl rfl (by omega)) ?_
   refine wA ?_
   refine wl_nil ?_
   exact ⟨i + 1, (sc rfl (sc rfl (sc rfl (sn _)))), ⟨by omega, H5.pm (by repeat constructor)⟩, by omega⟩
  have c0p := oF c0
  refine wc_exit ?_
  refine wc_seq ?_
  refine wcR ?_
  refine wV (v_fb (o2 := 0) fa69_0 rfl rfl) ?_
  refine wV (v_load one3 rfl (H.at (by repeat constructor) rfl)) ?_
  refine wl_nil ?_
  refine wc_block ?_
  refine wcR ?_
  refine wV (v_eql rfl rfl) ?_
  refine wA ?_
  refine wl_nil ?_
  refine wc_cond rfl (fun c2 => ?_) (fun c2 => ?_)
  ·have c2p := oT c2
   refine wcR ?_
   refine wV (v_fb (o2 := 1) fa69_1 rfl rfl) ?_
   refine wV (v_load one3 rfl (H.at (by repeat constructor) rfl)) ?_
   refine wV (v_eql rfl rfl) ?_
   refine wM ?_
   refine wl_guard rfl rfl rfl (fun g33 => ?_) (fun g33 => ?_)
   rotate_left
   ·have g33p := oF g33
    refine wF g33 ?_
    refine wF g33 ?_
    refine wV (v_pick_f rfl g33 rfl) ?_
    refine wA ?_
    refine wl_nil ?_
    refine wc_ret ?_
    first
      | exact ⟨_, res1 rfl rfl, congrArg Value.bool (decide_eq_true (by unfold nodeOk at hn; omega)), H.pm (Pm.nil _)⟩
      | (have h_ := of_dec (hok.symm.trans c5)
         exact ⟨_, res1 rfl rfl, congrArg Value.bool (decide_eq_true (by unfold nodeOk at hn; omega)), H.pm (Pm.nil _)⟩)
      | (have h_ := of_ndec (hok.symm.trans c5)
         exact absurd hn (by unfold nodeOk; omega))
      | exact absurd hn (by unfold nodeOk; omega)
   have g33p := oT g33
   refine wV (v_fb (o2 := 2) fa69_2 rfl rfl) ?_
   refine wO g33 ?_
   refine wV (v_load one9 rfl (H.at (by repeat constructor) rfl)) ?_
   refine wO g33 ?_
   refine wV (v_eql0 rfl rfl) ?_
   refine wV (v_pick_t rfl g33 rfl) ?_
   refine wA ?_
   refine wl_nil ?_
   refine wc_ret ?_
   first
     | exact ⟨_, res1 rfl rfl, congrArg Value.bool (decide_eq_true (by unfold nodeOk at hn; omega)), H.pm (Pm.nil _)⟩
     | (have h_ := of_dec (hok.symm.trans c5)
        exact ⟨_, res1 rfl rfl, congrArg Value.bool (decide_eq_true (by unfold nodeOk at hn; omega)), H.pm (Pm.nil _)⟩)
     | (have h_ := of_ndec (hok.symm.trans c5)
        exact absurd hn (by unfold nodeOk; omega))
     | exact absurd hn (by unfold nodeOk; omega)
  have c2p := oF c2
  refine wcR ?_
  refine wV (v_eql rfl rfl) ?_
  refine wA ?_
  refine wl_nil ?_
  refine wc_cond rfl (fun c3 => ?_) (fun c3 => ?_)
  rotate_left
  ·have c3p := oF c3
   refine wc_cut (σ := Bool) (fun q => [(1, .int .i64 syms), (2, .pointer (some ⟨b2, 0, none⟩)), (54, .bool q)]) (fun q W => (q = dec (t.x.kind = 3 ∨ t.x.kind = 2)) ∧ Holds w [Blk b2 69 [.int .i64 t.x.kind, .int .i64 t.x.at_, .string t.x.name, .slice B t.kids.length k]] W) ?_ ?_
   ·refine wcR ?_
    refine wV (v_eql rfl rfl) ?_
    refine wA ?_
    refine wl_nil ?_
    refine wc_cond rfl (fun c4 => ?_) (fun c4 => ?_)
    ·have c4p := oT c4
     refine wc_skip ?_
     first
       | exact ⟨_, (sc rfl (sc rfl (sc rfl (sn _)))), ⟨dec_eq ⟨fun hd => (by have h_ := oT hd; omega), fun hh => decide_eq_true (by omega)⟩, H.pm (by repeat constructor)⟩⟩
    have c4p := oF c4
    refine wc_region ?_
    refine wV (v_eql rfl rfl) ?_
    refine wA ?_
    refine wl_nil ?_
    first
      | exact ⟨_, (sc rfl (sc rfl (sc rfl (sn _)))), ⟨dec_eq ⟨fun hd => (by have h_ := oT hd; omega), fun hh => decide_eq_true (by omega)⟩, H.pm (by repeat constructor)⟩⟩
   rintro ok Wm ⟨hok, H⟩
   refine wc_cond rfl (fun c5 => ?_) (fun c5 => ?_)
   rotate_left
   ·refine wc_skip ?_
    refine wcR ?_
    refine wA ?_
    refine wl_nil ?_
    refine wc_ret ?_
    first
      | exact ⟨_, res1 rfl rfl, congrArg Value.bool (decide_eq_true (by unfold nodeOk at hn; omega)), H.pm (Pm.nil _)⟩
      | (have h_ := of_dec (hok.symm.trans c5)
         exact ⟨_, res1 rfl rfl, congrArg Value.bool (decide_eq_true (by unfold nodeOk at hn; omega)), H.pm (Pm.nil _)⟩)
      | (have h_ := of_ndec (hok.symm.trans c5)
         exact absurd hn (by unfold nodeOk; omega))
      | exact absurd hn (by unfold nodeOk; omega)
   refine wcR ?_
   refine wV (v_fb (o2 := 1) fa69_1 rfl rfl) ?_
   refine wV (v_load one3 rfl (H.at (by repeat constructor) rfl)) ?_
   refine wV (v_eql rfl rfl) ?_
   refine wA ?_
   refine wl_nil ?_
   refine wc_ret ?_
   first
     | exact ⟨_, res1 rfl rfl, congrArg Value.bool (decide_eq_true (by unfold nodeOk at hn; omega)), H.pm (Pm.nil _)⟩
     | (have h_ := of_dec (hok.symm.trans c5)
        exact ⟨_, res1 rfl rfl, congrArg Value.bool (decide_eq_true (by unfold nodeOk at hn; omega)), H.pm (Pm.nil _)⟩)
     | (have h_ := of_ndec (hok.symm.trans c5)
        exact absurd hn (by unfold nodeOk; omega))
     | exact absurd hn (by unfold nodeOk; omega)
  have c3p := oT c3
  refine wcR ?_
  refine wV (v_fb (o2 := 1) fa69_1 rfl rfl) ?_
  refine wV (v_load one3 rfl (H.at (by repeat constructor) rfl)) ?_
  refine wV (v_geq rfl rfl) ?_
  refine wM ?_
  refine wl_guard rfl rfl rfl (fun g43 => ?_) (fun g43 => ?_)
  rotate_left
  ·have g43p := oF g43
   refine wF g43 ?_
   refine wF g43 ?_
   refine wF g43 ?_
   refine wV (v_pick_f rfl g43 rfl) ?_
   refine wM ?_
   refine wF rfl ?_
   refine wF rfl ?_
   refine wF rfl ?_
   refine wV (v_pick_f rfl rfl rfl) ?_
   refine wA ?_
   refine wl_nil ?_
   refine wc_ret ?_
   first
     | exact ⟨_, res1 rfl rfl, congrArg Value.bool (decide_eq_true (by unfold nodeOk at hn; omega)), H.pm (Pm.nil _)⟩
     | (have h_ := of_dec (hok.symm.trans c5)
        exact ⟨_, res1 rfl rfl, congrArg Value.bool (decide_eq_true (by unfold nodeOk at hn; omega)), H.pm (Pm.nil _)⟩)
     | (have h_ := of_ndec (hok.symm.trans c5)
        exact absurd hn (by unfold nodeOk; omega))
     | exact absurd hn (by unfold nodeOk; omega)
  have g43p := oT g43
  refine wV (v_fb (o2 := 1) fa69_1 rfl rfl) ?_
  refine wO g43 ?_
  refine wV (v_load one3 rfl (H.at (by repeat constructor) rfl)) ?_
  refine wO g43 ?_
  refine wM ?_
  refine wO g43 ?_
  refine wV (v_lss rfl rfl) ?_
  refine wV (v_pick_t rfl g43 rfl) ?_
  refine wM ?_
  refine wl_guard rfl rfl rfl (fun g49 => ?_) (fun g49 => ?_)
  rotate_left
  ·have g49p := oF g49
   refine wF g49 ?_
   refine wF g49 ?_
   refine wV (v_pick_f rfl g49 rfl) ?_
   refine wA ?_
   refine wl_nil ?_
   refine wc_ret ?_
   first
     | exact ⟨_, res1 rfl rfl, congrArg Value.bool (decide_eq_true (by unfold nodeOk at hn; omega)), H.pm (Pm.nil _)⟩
     | (have h_ := of_dec (hok.symm.trans c5)
        exact ⟨_, res1 rfl rfl, congrArg Value.bool (decide_eq_true (by unfold nodeOk at hn; omega)), H.pm (Pm.nil _)⟩)
     | (have h_ := of_ndec (hok.symm.trans c5)
        exact absurd hn (by unfold nodeOk; omega))
     | exact absurd hn (by unfold nodeOk; omega)
  have g49p := oT g49
  refine wV (v_fb (o2 := 2) fa69_2 rfl rfl) ?_
  refine wO g49 ?_
  refine wV (v_load one9 rfl (H.at (by repeat constructor) rfl)) ?_
  refine wO g49 ?_
  refine wV (v_eql0 rfl rfl) ?_
  refine wV (v_pick_t rfl g49 rfl) ?_
  refine wA ?_
  refine wl_nil ?_
  refine wc_ret ?_
  first
    | exact ⟨_, res1 rfl rfl, congrArg Value.bool (decide_eq_true (by unfold nodeOk at hn; omega)), H.pm (Pm.nil _)⟩
    | (have h_ := of_dec (hok.symm.trans c5)
       exact ⟨_, res1 rfl rfl, congrArg Value.bool (decide_eq_true (by unfold nodeOk at hn; omega)), H.pm (Pm.nil _)⟩)
    | (have h_ := of_ndec (hok.symm.trans c5)
       exact absurd hn (by unfold nodeOk; omega))
    | exact absurd hn (by unfold nodeOk; omega)

theorem rplain_calls : ∀ t : Ac, RPlainOk t := Tr.ind fun x kids ih => fun w B k syms hr hall hcn => rplain_step (t := .mk x kids) hr hall hcn ih

def AllOk (g : Pl) (d : Dv) : Prop := ∀ (a : PlA) (w : World) (B : Option Addr) (bm k : Nat) (hm : ∀ j u, ([.slice a.k g.kinds.length a.ck, .slice a.p g.precs.length a.cp, .slice a.r g.rules.length a.cr, .slice a.q g.prods.length a.cq, .int .i64 g.start] : List Value)[j]? = some u → w.cell? ⟨bm, j, none⟩ = some u) (hrg : g.rd w a) (hr : Rd (kTr fDv) w B d.kids) (hd : d.All (dvOk g)) (hcn : d.cnt ≤ 1099511627776), Calls Try.prog 44 #[.pointer (some ⟨bm, 0, none⟩), .agg #[.int .i64 d.x.prod, .int .i64 d.x.tok, .slice B d.kids.length k]] w fun e w' => ∃ v, e = .returned v ∧ v = .bool true ∧ Holds w [] w'

set_option maxHeartbeats 3200000 in
set_option maxRecDepth 100000 in
theorem all_step {g : Pl} {a : PlA} {w : World} {B : Option Addr} {bm k : Nat} {d : Dv} (hact : ActsOk g) (hgq : g.prods.length ≤ 1099511627776) (hm : ∀ j u, ([.slice a.k g.kinds.length a.ck, .slice a.p g.precs.length a.cp, .slice a.r g.rules.length a.cr, .slice a.q g.prods.length a.cq, .int .i64 g.start] : List Value)[j]? = some u → w.cell? ⟨bm, j, none⟩ = some u) (hrg : g.rd w a) (hr : Rd (kTr fDv) w B d.kids) (hd : d.All (dvOk g)) (hcn : d.cnt ≤ 1099511627776) (ih : ∀ t' ∈ d.kids, AllOk g t') : Calls Try.prog 44 #[.pointer (some ⟨bm, 0, none⟩), .agg #[.int .i64 d.x.prod, .int .i64 d.x.tok, .slice B d.kids.length k]] w fun e w' => ∃ v, e = .returned v ∧ v = .bool true ∧ Holds w [] w' := by
  obtain ⟨hd0, hds⟩ := (Tr.All_eq d).1 hd
  have hcnt := Tr.cnt_eq d
  have hkl := Tr.cnts_len d.kids
  refine calls_of Try.func44 rfl Try.ntmps44 rfl ?_
  have H := Holds.start w
  refine wcR ?_
  refine wl_box (cs := [_, _, _]) H rfl rfl rfl ?_
  intro b3 w1 hb3 H2
  refine wA ?_
  refine wl_nil ?_
  refine wc_seq ?_
  refine wcR ?_
  refine wV (v_fb (o2 := 0) fa50_0 rfl rfl) ?_
  refine wV (v_load one3 rfl (H2.at (by repeat constructor) rfl)) ?_
  refine wV (v_lss rfl rfl) ?_
  refine wl_nil ?_
  refine wc_cond rfl (fun c0 => ?_) (fun c0 => ?_)
  ·have c0p := oT c0
   refine wcR ?_
   refine wA ?_
   refine wl_nil ?_
   refine wc_ret ?_
   exact ⟨_, res1 rfl rfl, rfl, H2.pm (Pm.nil _)⟩
  have c0p := oF c0
  have hdr : (0 ≤ d.x.prod ∧ d.x.prod < g.prods.length) ∧ d.kids.length = (g.prods.getD d.x.prod.toNat pr0).right.length := hd0.elim (fun h => absurd h c0p) (fun h => h)
  refine wc_skip ?_
  refine wc_seq ?_
  refine wc_seq ?_
  refine wc_tree [0, 1, 2, 3, 4, 5, 6, 7, 8, 9, 10, 11, 12, 13, 14, 15, 16, 17, 18, 19, 20, 22] (fun W => Holds w [Blk b3 50 [.int .i64 d.x.prod, .int .i64 d.x.tok, .slice B d.kids.length k]] W) mixed ?_
  have Hd := H2.drew
  have HSd : Holds w [Blk b3 50 [.int .i64 d.x.prod, .int .i64 d.x.tok, .slice B d.kids.length k]] _ := Hd.pm (by repeat constructor)
  refine wjV (k := 0) rfl HSd (fun W HW => v_move rfl) ?_
  refine wjV (k := 1) rfl HSd (fun W HW => v_nil rfl) ?_
  refine wjV (k := 2) rfl HSd (fun W HW => v_fb (o2 := 0) fa115_0 rfl rfl) ?_
  refine wjV (k := 3) rfl HSd (fun W HW => v_fb (o2 := 3) fa44_3 rfl rfl) ?_
  refine wjV (k := 4) rfl HSd (fun W HW => v_load one42 rfl (HW.cell (hm 3 _ rfl))) ?_
  refine wjV (k := 5) rfl HSd (fun W HW => v_fb (o2 := 0) fa50_0 rfl rfl) ?_
  refine wjV (k := 6) rfl HSd (fun W HW => v_load one3 rfl (HW.at (by repeat constructor) rfl)) ?_
  refine wjV (k := 7) rfl HSd (fun W HW => v_idx Try.underlying42 sz73 hrg.q.ad rfl rfl (by omega) (by omega)) ?_
  refine wjV (k := 8) rfl HSd (fun W HW => v_fp fa73_3 rfl) ?_
  obtain ⟨R18_, c18_, B18_, k18_, hc18_, hl18_, hR18_, hB18_⟩ := hrg.q.atPrI (i := d.x.prod) (by omega) (by omega)
  refine wjV (k := 9) rfl HSd (fun W HW => v_loadN (cs := [.int .i64 (g.prods.getD d.x.prod.toNat pr0).act.x.kind, .int .i64 (g.prods.getD d.x.prod.toNat pr0).act.x.at_, .string (g.prods.getD d.x.prod.toNat pr0).act.x.name, .slice B18_ (g.prods.getD d.x.prod.toNat pr0).act.kids.length k18_]) agg69 rfl rfl (fun q_ u_ hu_ => HW.cell (by rw [add_add]; exact hc18_ (3 + q_) u_ (cut_eq (k := 4) rfl q_ u_ hu_)))) ?_
  refine wjV (k := 10) rfl HSd (fun W HW => v_move rfl) ?_
  refine wjV (k := 11) rfl HSd (fun W HW => v_nil rfl) ?_
  refine wjV (k := 12) rfl HSd (fun W HW => v_fb (o2 := 0) fa115_0 rfl rfl) ?_
  refine wjV (k := 13) rfl HSd (fun W HW => v_fb (o2 := 3) fa44_3 rfl rfl) ?_
  refine wjV (k := 14) rfl HSd (fun W HW => v_load one42 rfl (HW.cell (hm 3 _ rfl))) ?_
  refine wjV (k := 15) rfl HSd (fun W HW => v_fb (o2 := 0) fa50_0 rfl rfl) ?_
  refine wjV (k := 16) rfl HSd (fun W HW => v_load one3 rfl (HW.at (by repeat constructor) rfl)) ?_
  refine wjV (k := 17) rfl HSd (fun W HW => v_idx Try.underlying42 sz73 hrg.q.ad rfl rfl (by omega) (by omega)) ?_
  refine wjV (k := 18) rfl HSd (fun W HW => v_fp fa73_1 rfl) ?_
  obtain ⟨R28_, c28_, B28_, k28_, hc28_, hl28_, hR28_, hB28_⟩ := hrg.q.atPrI (i := d.x.prod) (by omega) (by omega)
  refine wjV (k := 19) rfl HSd (fun W HW => v_load one51 rfl (HW.cell (hc28_ 1 _ rfl))) ?_
  refine wjV (k := 20) rfl HSd (fun W HW => v_len Try.underlying51 rfl) ?_
  refine wj_t (k := 21) rfl (by kernel_rfl) ?_
  refine wl_call en71 rfl rfl (rplain_calls _ _ B18_ k18_ _ (hB18_.below Hd.old) (hact _ (by omega)).1 (by have := (hact d.x.prod.toNat (by omega)).2; omega)) ?_
  rintro _ w3 ⟨rfl, Hc⟩
  have H4 := Hd.call0 Hc
  have HS5 : Holds w [Blk b3 50 [.int .i64 d.x.prod, .int .i64 d.x.tok, .slice B d.kids.length k]] _ := H4.pm (by repeat constructor)
  refine wl_nil (tn ⟨fun _ => HS5, ?_⟩)
  refine wjV (k := 22) rfl HS5 (fun W HW => v_not rfl) ?_
  refine wj_done (by kernel_rfl) ?_
  refine wc_cond_f rfl ?_
  refine wc_skip ?_
  refine wc_seq ?_
  refine wcR ?_
  refine wA ?_
  refine wl_nil ?_
  refine wc_block ?_
  refine wc_loop (σ := Nat) (fun s => [(0, .pointer (some ⟨bm, 0, none⟩)), (3, .pointer (some ⟨b3, 0, none⟩)), (5, .int .i64 s)]) (fun s W => s ≤ d.kids.length ∧ Holds w [Blk b3 50 [.int .i64 d.x.prod, .int .i64 d.x.tok, .slice B d.kids.length k]] W) (fun s => d.kids.length - s) 0 (sc rfl (sc rfl (sc rfl (sn _)))) ⟨Nat.zero_le _, H4⟩ ?_
  rintro i W0 ⟨hi, H⟩
  refine wc_seq ?_
  refine wcR ?_
  refine wM ?_
  refine wV (v_fb (o2 := 2) fa50_2 rfl rfl) ?_
  refine wV (v_load one48 rfl (H.at (by repeat constructor) rfl)) ?_
  refine wV (v_len Try.underlying48 rfl) ?_
  refine wV (v_lss rfl rfl) ?_
  refine wl_nil ?_
  refine wc_cond rfl (fun c2 => ?_) (fun c2 => ?_)
  rotate_left
  ·have c2p := oF c2
   refine wc_exit ?_
   refine wcR ?_
   refine wA ?_
   refine wl_nil ?_
   refine wc_ret ?_
   exact ⟨_, res1 rfl rfl, rfl, H.pm (Pm.nil _)⟩
  have c2p := oT c2
  refine wc_skip ?_
  refine wc_seq ?_
  refine wc_block ?_
  refine wcR ?_
  refine wM ?_
  refine wV (v_fb (o2 := 2) fa50_2 rfl rfl) ?_
  refine wV (v_load one48 rfl (H.at (by repeat constructor) rfl)) ?_
  refine wM ?_
  refine wV (v_idx Try.underlying48 sz50 hr.ad rfl rfl (by omega) (by omega)) ?_
  obtain ⟨B44_, k44_, hc44_, hl44_, hr44_⟩ := hr.atTr dv0 (i := i) (by omega)
  refine wV (v_loadN (cs := [.int .i64 (d.kids.getD i dv0).x.prod, .int .i64 (d.kids.getD i dv0).x.tok, .slice B44_ (d.kids.getD i dv0).kids.length k44_]) agg50 rfl rfl (fun q_ u_ hu_ => H.cell (hc44_ q_ u_ hu_))) ?_
  refine wl_call en44 rfl rfl (ih _ (getD_mem (z := dv0) (show i < d.kids.length by omega)) a _ _ bm _ (fun j u hu => H.cell (hm j u hu)) (hrg.below H.old) (hr44_.below H.old) (Tr.Alls_at dv0 (by omega) hds) (by have h_ := Tr.cnts_succ dv0 d.kids i (by omega); have h2_ := Tr.cnts_take d.kids (i + 1); omega)) ?_
  rintro _ w7 ⟨rfl, Hc⟩
  have H8 := H.call0 Hc
  refine wV (v_not rfl) ?_
  refine wl_nil ?_
  refine wc_cond_f rfl ?_
  refine wc_skip ?_
  refine wc_region ?_
  refine wM ?_
  refine wV (v_addi rfl rfl (by omega)) ?_
  refine wA ?_
  refine wl_nil ?_
  exact ⟨i + 1, (sc rfl (sc rfl (sc rfl (sn _)))), ⟨by omega, H8.pm (by repeat constructor)⟩, by omega⟩

theorem all_calls {g : Pl} (hact : ActsOk g) (hgq : g.prods.length ≤ 1099511627776) : ∀ d : Dv, AllOk g d := Tr.ind fun x kids ih => fun a w B bm k hm hrg hr hd hcn => all_step (d := .mk x kids) hact hgq hm hrg hr hd hcn ih

def RActOk (g : Pl) (ds : List Dv) (t : Ac) : Prop := ∀ (a : PlA) (w0 w : World) (L : List Ch) (B D : Option Addr) (bm k kd : Nat) (made why : Int) (hrg : g.rd w0 a) (hr : Rd (kTr fDv) w0 D ds) (ht : Rd (kTr fAc) w0 B t.kids) (hall : t.All (nodeOk ds.length)) (hcn : t.cnt ≤ 1099511627776) (hs : MSt made why) (HH : Holds w0 (Blk bm 115 [.slice a.k g.kinds.length a.ck, .slice a.p g.precs.length a.cp, .slice a.r g.rules.length a.cr, .slice a.q g.prods.length a.cq, .int .i64 g.start, .int .i64 made, .int .i64 why] :: L) w), Calls Try.prog 73 #[.pointer (some ⟨bm, 0, none⟩), .agg #[.int .i64 t.x.kind, .int .i64 t.x.at_, .string t.x.name, .slice B t.kids.length k], .slice D ds.length kd] w fun e w' => ∃ v, e = .returned v ∧ ∃ (t2 : Nd) (made2 why2 : Int) (A' : Option Addr) (c' : Nat), v = .agg #[.int .i64 t2.x.kind, .string t2.x.name, .int .i64 t2.x.tok, .slice A' t2.kids.length c'] ∧ (MRes made why (actV (ds.map (valD g)) t).cnt made2 why2 ∧ (why2 = 0 → t2 = (actV (ds.map (valD g)) t))) ∧ Holds w0 (NX (krTr fNd) w0 no t2 [.int .i64 t2.x.kind, .string t2.x.name, .int .i64 t2.x.tok, .slice A' t2.kids.length c'] :: Blk bm 115 [.slice a.k g.kinds.length a.ck, .slice a.p g.precs.length a.cp, .slice a.r g.rules.length a.cr, .slice a.q g.prods.length a.cq, .int .i64 g.start, .int .i64 made2, .int .i64 why2] :: L) w'
def RValOk (g : Pl) (d : Dv) : Prop := ∀ (a : PlA) (w0 w : World) (L : List Ch) (B : Option Addr) (bm k : Nat) (made why : Int) (hrg : g.rd w0 a) (hr : Rd (kTr fDv) w0 B d.kids) (hd : d.All (dvOk g)) (hcn : d.cnt ≤ 1099511627776) (hs : MSt made why) (HH : Holds w0 (Blk bm 115 [.slice a.k g.kinds.length a.ck, .slice a.p g.precs.length a.cp, .slice a.r g.rules.length a.cr, .slice a.q g.prods.length a.cq, .int .i64 g.start, .int .i64 made, .int .i64 why] :: L) w), Calls Try.prog 45 #[.pointer (some ⟨bm, 0, none⟩), .agg #[.int .i64 d.x.prod, .int .i64 d.x.tok, .slice B d.kids.length k]] w fun e w' => ∃ v, e = .returned v ∧ ∃ (t2 : Nd) (made2 why2 : Int) (A' : Option Addr) (c' : Nat), v = .agg #[.int .i64 t2.x.kind, .string t2.x.name, .int .i64 t2.x.tok, .slice A' t2.kids.length c'] ∧ (MRes made why (valD g d).cnt made2 why2 ∧ (why2 = 0 → t2 = (valD g d))) ∧ Holds w0 (NX (krTr fNd) w0 no t2 [.int .i64 t2.x.kind, .string t2.x.name, .int .i64 t2.x.tok, .slice A' t2.kids.length c'] :: Blk bm 115 [.slice a.k g.kinds.length a.ck, .slice a.p g.precs.length a.cp, .slice a.r g.rules.length a.cr, .slice a.q g.prods.length a.cq, .int .i64 g.start, .int .i64 made2, .int .i64 why2] :: L) w'

set_option maxHeartbeats 6400000 in
set_option maxRecDepth 100000 in
theorem ract_step {g : Pl} {a : PlA} {w0 w : World} {L : List Ch} {B D : Option Addr} {bm k kd : Nat} {made why : Int} {ds : List Dv} {t : Ac} (hrg : g.rd w0 a) (hr : Rd (kTr fDv) w0 D ds) (ht : Rd (kTr fAc) w0 B t.kids) (hall : t.All (nodeOk ds.length)) (hcn : t.cnt ≤ 1099511627776) (hs : MSt made why) (HH : Holds w0 (Blk bm 115 [.slice a.k g.kinds.length a.ck, .slice a.p g.precs.length a.cp, .slice a.r g.rules.length a.cr, .slice a.q g.prods.length a.cq, .int .i64 g.start, .int .i64 made, .int .i64 why] :: L) w) (hds : ∀ d ∈ ds, d.All (dvOk g) ∧ d.cnt ≤ 1099511627776) (ihd : ∀ d ∈ ds, RValOk g d) (ih : ∀ t' ∈ t.kids, RActOk g ds t') : Calls Try.prog 73 #[.pointer (some ⟨bm, 0, none⟩), .agg #[.int .i64 t.x.kind, .int .i64 t.x.at_, .string t.x.name, .slice B t.kids.length k], .slice D ds.length kd] w fun e w' => ∃ v, e = .returned v ∧ ∃ (t2 : Nd) (made2 why2 : Int) (A' : Option Addr) (c' : Nat), v = .agg #[.int .i64 t2.x.kind, .string t2.x.name, .int .i64 t2.x.tok, .slice A' t2.kids.length c'] ∧ (MRes made why (actV (ds.map (valD g)) t).cnt made2 why2 ∧ (why2 = 0 → t2 = (actV (ds.map (valD g)) t))) ∧ Holds w0 (NX (krTr fNd) w0 no t2 [.int .i64 t2.x.kind, .string t2.x.name, .int .i64 t2.x.tok, .slice A' t2.kids.length c'] :: Blk bm 115 [.slice a.k g.kinds.length a.ck, .slice a.p g.precs.length a.cp, .slice a.r g.rules.length a.cr, .slice a.q g.prods.length a.cq, .int .i64 g.start, .int .i64 made2, .int .i64 why2] :: L) w' := by
  obtain ⟨hn, hks⟩ := (Tr.All_eq t).1 hall
  have hcnt := Tr.cnt_eq t
  have hkl := Tr.cnts_len t.kids
  have hs0 := hs.1
  refine calls_of Try.func73 rfl Try.ntmps73 rfl ?_
  have H := HH
  refine wcR ?_
  refine wl_box (cs := [_, _, _, _]) H rfl rfl rfl ?_
  intro b4 w1 hb4 H2
  refine wl_alloc (cs := [.int .i64 0, .string ⟨#[]⟩, .int .i64 0, .slice none 0 0]) H2 rfl zv24 rfl ?_
  intro b6 w3 hb6 H4
  refine wl_nil ?_
  refine wc_seq ?_
  refine wcR ?_
  refine wM ?_
  refine wV (v_nil rfl) ?_
  refine wV (v_fb (o2 := 6) fa115_2 rfl rfl) ?_
  refine wV (v_load one3 rfl (H4.at (by repeat constructor) rfl)) ?_
  refine wV (v_neq rfl rfl) ?_
  refine wl_nil ?_
  refine wc_cond rfl (fun c0 => ?_) (fun c0 => ?_)
  ·have c0p := of_nd_t c0
   refine wcR ?_
   refine wV (v_bld ba24 rfl (by repeat constructor)) ?_
   refine wl_store (vs := [_, _, _, _]) H4 (by repeat constructor) sz24 rfl rfl rfl rfl rfl (by (repeat constructor)) ?_
   intro w5 H6 hw5
   refine wl_nil ?_
   refine wc_ret ?_
   first
     | (have q_ := hres
        have q2_ := c1p
        refine ⟨_, resc rfl rfl (run_loadVarN agg24 rfl (H6.ats (by repeat constructor))), t2, made2, why2, Ax, cx, rfl, ?_, H6.pm (by repeat (first | exact pm_refl _ | constructor | refine pm_skip ?_))⟩
        rw [actV_pick c1p, getD_map (valD g) dv0 nd0 (show t.x.at_.toNat < ds.length by omega)]
        exact hres)
     | exact ⟨_, resc rfl rfl (run_loadVarN agg24 rfl (H6.ats (by repeat constructor))), t2, made2, why2, Ax, cx, rfl, hres, H6.pm (by repeat (first | exact pm_refl _ | constructor | refine pm_skip ?_))⟩
     | exact ⟨_, resc rfl rfl (run_loadVarN agg24 rfl (H6.ats (by repeat constructor))), nd0, made, why, none, 0, rfl, ⟨MRes.stuck hs c0p, fun h => absurd h c0p⟩, (H6.nxLeaf (f := fNd) (T := no) ⟨0, ⟨#[]⟩, 0⟩).pm (by repeat (first | exact pm_refl _ | constructor | refine pm_skip ?_))⟩
  have c0p := of_nd_f c0
  refine wc_skip ?_
  refine wc_seq ?_
  refine wcR ?_
  refine wV (v_fb (o2 := 0) fa69_0 rfl rfl) ?_
  refine wV (v_load one3 rfl (H4.at (by repeat constructor) rfl)) ?_
  refine wV (v_eql rfl rfl) ?_
  refine wl_nil ?_
  refine wc_cond rfl (fun c1 => ?_) (fun c1 => ?_)
  ·have c1p := oT c1
   refine wcR ?_
   refine wM ?_
   refine wM ?_
   refine wV (v_fb (o2 := 1) fa69_1 rfl rfl) ?_
   refine wV (v_load one3 rfl (H4.at (by repeat constructor) rfl)) ?_
   have hat : 0 ≤ t.x.at_ ∧ t.x.at_ < ds.length := by unfold nodeOk at hn; omega
   refine wV (v_idx Try.underlying48 sz50 hr.ad rfl rfl hat.1 hat.2) ?_
   have hat : 0 ≤ t.x.at_ ∧ t.x.at_ < ds.length := by unfold nodeOk at hn; omega
   obtain ⟨B23_, k23_, hc23_, hl23_, hr23_⟩ := hr.atTrI dv0 hat.1 hat.2
   refine wV (v_loadN (cs := [.int .i64 (ds.getD t.x.at_.toNat dv0).x.prod, .int .i64 (ds.getD t.x.at_.toNat dv0).x.tok, .slice B23_ (ds.getD t.x.at_.toNat dv0).kids.length k23_]) agg50 rfl rfl (fun q_ u_ hu_ => H4.cell (hc23_ q_ u_ hu_))) ?_
   refine wl_call en45 rfl rfl (ihd _ (getD_mem (z := dv0) (show t.x.at_.toNat < ds.length by omega)) a w0 _ _ B23_ bm k23_ made why hrg hr23_ (hds _ (getD_mem (z := dv0) (show t.x.at_.toNat < ds.length by omega))).1 (hds _ (getD_mem (z := dv0) (show t.x.at_.toNat < ds.length by omega))).2 hs (H4.turn (A := Blk bm 115 [.slice a.k g.kinds.length a.ck, .slice a.p g.precs.length a.cp, .slice a.r g.rules.length a.cr, .slice a.q g.prods.length a.cq, .int .i64 g.start, .int .i64 made, .int .i64 why]) (by repeat constructor))) ?_
   rintro _ w9 ⟨t2, made2, why2, Ax, cx, rfl, hres, Hc⟩
   refine wl_store (vs := [_, _, _, _]) Hc (by repeat constructor) sz24 rfl rfl rfl rfl rfl (by (repeat constructor)) ?_
   intro w10 H11 hw10
   refine wl_nil ?_
   refine wc_ret ?_
   first
     | (have q_ := hres
        have q2_ := c1p
        refine ⟨_, resc rfl rfl (run_loadVarN agg24 rfl (H11.ats (by repeat constructor))), t2, made2, why2, Ax, cx, rfl, ?_, H11.pm (by repeat (first | exact pm_refl _ | constructor | refine pm_skip ?_))⟩
        rw [actV_pick c1p, getD_map (valD g) dv0 nd0 (show t.x.at_.toNat < ds.length by omega)]
        exact hres)
     | exact ⟨_, resc rfl rfl (run_loadVarN agg24 rfl (H11.ats (by repeat constructor))), t2, made2, why2, Ax, cx, rfl, hres, H11.pm (by repeat (first | exact pm_refl _ | constructor | refine pm_skip ?_))⟩
     | exact ⟨_, resc rfl rfl (run_loadVarN agg24 rfl (H11.ats (by repeat constructor))), nd0, made, why, none, 0, rfl, ⟨MRes.stuck hs c0p, fun h => absurd h c0p⟩, (H11.nxLeaf (f := fNd) (T := no) ⟨0, ⟨#[]⟩, 0⟩).pm (by repeat (first | exact pm_refl _ | constructor | refine pm_skip ?_))⟩
  have c1p := oF c1
  refine wc_skip ?_
  refine wcR ?_
  refine wM ?_
  refine wl_call en72 rfl rfl (made_calls hs0 (H4.turn (A := Blk bm 115 [.slice a.k g.kinds.length a.ck, .slice a.p g.precs.length a.cp, .slice a.r g.rules.length a.cr, .slice a.q g.prods.length a.cq, .int .i64 g.start, .int .i64 made, .int .i64 why]) (by repeat constructor))) ?_
  rintro _ w12 ⟨why1, hw1, Hc⟩
  have hr1 := MRes.one hs c0p hw1
  refine wl_nil ?_
  refine wcR ?_
  refine wV (v_bld ba24 rfl (by repeat constructor)) ?_
  refine wl_alloc (cs := [.int .i64 0, .string ⟨#[]⟩, .int .i64 0, .slice none 0 0]) Hc rfl zv24 rfl ?_
  intro b7 w13 hb7 H14
  refine wl_store (vs := [_, _, _, _]) H14 (by repeat constructor) sz24 rfl rfl rfl rfl rfl (by (repeat constructor)) ?_
  intro w15 H16 hw15
  refine wl_nil ?_
  refine wc_cut (σ := Nd × Int × Int × Option Addr × Nat) (fun s' => [(0, .pointer (some ⟨bm, 0, none⟩)), (2, .slice D ds.length kd), (4, .pointer (some ⟨b4, 0, none⟩)), (6, .pointer (some ⟨b6, 0, none⟩)), (7, .pointer (some ⟨b7, 0, none⟩))]) (fun s' W => (MRes made why (actV (ds.map (valD g)) t).cnt s'.2.1 s'.2.2.1 ∧ (s'.2.2.1 = 0 → s'.1 = (actV (ds.map (valD g)) t))) ∧ Holds w0 (Blk b7 24 [.int .i64 s'.1.x.kind, .string s'.1.x.name, .int .i64 s'.1.x.tok, .slice s'.2.2.2.1 s'.1.kids.length s'.2.2.2.2] :: NX (krTr fNd) w0 no s'.1 [.int .i64 s'.1.x.kind, .string s'.1.x.name, .int .i64 s'.1.x.tok, .slice s'.2.2.2.1 s'.1.kids.length s'.2.2.2.2] :: Blk bm 115 [.slice a.k g.kinds.length a.ck, .slice a.p g.precs.length a.cp, .slice a.r g.rules.length a.cr, .slice a.q g.prods.length a.cq, .int .i64 g.start, .int .i64 s'.2.1, .int .i64 s'.2.2.1] :: Blk b6 24 [.int .i64 0, .string ⟨#[]⟩, .int .i64 0, .slice none 0 0] :: L) W) ?_ ?_
  rotate_left
  ·rintro ⟨t2, made2, why2, Ax, cx⟩ Wm ⟨hres, H⟩
   dsimp only at hres H ⊢
   refine wcR ?_
   refine wV (v_loadN agg24 rfl rfl (H.ats (by repeat constructor))) ?_
   refine wl_store (vs := [_, _, _, _]) H (by repeat constructor) sz24 rfl rfl rfl rfl rfl (by (repeat constructor)) ?_
   intro w31 H32 hw31
   refine wl_nil ?_
   refine wc_ret ?_
   first
     | (have q_ := hres
        have q2_ := c1p
        refine ⟨_, resc rfl rfl (run_loadVarN agg24 rfl (H32.ats (by repeat constructor))), t2, made2, why2, Ax, cx, rfl, ?_, H32.pm (by repeat (first | exact pm_refl _ | constructor | refine pm_skip ?_))⟩
        rw [actV_pick c1p, getD_map (valD g) dv0 nd0 (show t.x.at_.toNat < ds.length by omega)]
        exact hres)
     | exact ⟨_, resc rfl rfl (run_loadVarN agg24 rfl (H32.ats (by repeat constructor))), t2, made2, why2, Ax, cx, rfl, hres, H32.pm (by repeat (first | exact pm_refl _ | constructor | refine pm_skip ?_))⟩
     | exact ⟨_, resc rfl rfl (run_loadVarN agg24 rfl (H32.ats (by repeat constructor))), nd0, made, why, none, 0, rfl, ⟨MRes.stuck hs c0p, fun h => absurd h c0p⟩, (H32.nxLeaf (f := fNd) (T := no) ⟨0, ⟨#[]⟩, 0⟩).pm (by repeat (first | exact pm_refl _ | constructor | refine pm_skip ?_))⟩
  refine wcR ?_
  refine wV (v_fb (o2 := 0) fa69_0 rfl rfl) ?_
  refine wV (v_load one3 rfl (H16.at (by repeat constructor) rfl)) ?_
  refine wl_nil ?_
  refine wc_block ?_
  refine wcR ?_
  refine wV (v_eql rfl rfl) ?_
  refine wA ?_
  refine wl_nil ?_
  refine wc_cond rfl (fun c2 => ?_) (fun c2 => ?_)
  ·have c2p := oT c2
   refine wc_region ?_
   refine wV (v_fb (o2 := 2) fa69_2 rfl rfl) ?_
   refine wV (v_load one9 rfl (H16.at (by repeat constructor) rfl)) ?_
   refine wV (v_bld ba24 rfl (by repeat constructor)) ?_
   refine wl_store (vs := [_, _, _, _]) H16 (by repeat constructor) sz24 rfl rfl rfl rfl rfl (by (repeat constructor)) ?_
   intro w17 H18 hw17
   refine wl_nil ?_
   first
     | (have q_ := ts
        rw [List.take_of_length_le (by omega)] at hp hq
        rw [show t.kids.length = ts.length by omega] at *
        exact ⟨(.mk ⟨3, t.x.name, 0⟩ ts, m1, y1, A5, cz), (sc rfl (sc rfl (sc rfl (sc rfl (sc rfl (sn _)))))), ⟨⟨by rw [actV_node c3p, Tr.cnt_eq]; exact hp, fun h => by rw [actV_node c3p]; exact congrArg (Tr.mk _) (hq h)⟩, ((H18.turn (A := FRow (krTr fNd) w0 no 24 (.slice A5 ts.length cz) ts) (by repeat constructor)).frzTr ⟨3, t.x.name, 0⟩).pm (by repeat (first | exact pm_refl _ | constructor | refine pm_skip ?_))⟩⟩)
     | exact ⟨(.mk ⟨2, t.x.name, 0⟩ [], made + 1, why1, none, 0), (sc rfl (sc rfl (sc rfl (sc rfl (sc rfl (sn _)))))), ⟨⟨by rw [actV_text c2p]; exact hr1, fun _ => (actV_text c2p).symm⟩, (H18.nxLeaf (f := fNd) (T := no) ⟨2, t.x.name, 0⟩).pm (by repeat (first | exact pm_refl _ | constructor | refine pm_skip ?_))⟩⟩
     | exact ⟨(nd0, made + 1, why1, none, 0), (sc rfl (sc rfl (sc rfl (sc rfl (sc rfl (sn _)))))), ⟨⟨by rw [actV_none c1p c3p c2p]; exact hr1, fun _ => (actV_none c1p c3p c2p).symm⟩, (H18.nxLeaf (f := fNd) (T := no) ⟨0, ⟨#[]⟩, 0⟩).pm (by repeat (first | exact pm_refl _ | constructor | refine pm_skip ?_))⟩⟩
  have c2p := oF c2
  refine wcR ?_
  refine wV (v_eql rfl rfl) ?_
  refine wA ?_
  refine wl_nil ?_
  refine wc_cond rfl (fun c3 => ?_) (fun c3 => ?_)
  rotate_left
  ·have c3p := oF c3
   refine wc_skip ?_
   first
     | (have q_ := ts
        rw [List.take_of_length_le (by omega)] at hp hq
        rw [show t.kids.length = ts.length by omega] at *
        exact ⟨(.mk ⟨3, t.x.name, 0⟩ ts, m1, y1, A5, cz), (sc rfl (sc rfl (sc rfl (sc rfl (sc rfl (sn _)))))), ⟨⟨by rw [actV_node c3p, Tr.cnt_eq]; exact hp, fun h => by rw [actV_node c3p]; exact congrArg (Tr.mk _) (hq h)⟩, ((H16.turn (A := FRow (krTr fNd) w0 no 24 (.slice A5 ts.length cz) ts) (by repeat constructor)).frzTr ⟨3, t.x.name, 0⟩).pm (by repeat (first | exact pm_refl _ | constructor | refine pm_skip ?_))⟩⟩)
     | exact ⟨(.mk ⟨2, t.x.name, 0⟩ [], made + 1, why1, none, 0), (sc rfl (sc rfl (sc rfl (sc rfl (sc rfl (sn _)))))), ⟨⟨by rw [actV_text c2p]; exact hr1, fun _ => (actV_text c2p).symm⟩, (H16.nxLeaf (f := fNd) (T := no) ⟨2, t.x.name, 0⟩).pm (by repeat (first | exact pm_refl _ | constructor | refine pm_skip ?_))⟩⟩
     | exact ⟨(nd0, made + 1, why1, none, 0), (sc rfl (sc rfl (sc rfl (sc rfl (sc rfl (sn _)))))), ⟨⟨by rw [actV_none c1p c3p c2p]; exact hr1, fun _ => (actV_none c1p c3p c2p).symm⟩, (H16.nxLeaf (f := fNd) (T := no) ⟨0, ⟨#[]⟩, 0⟩).pm (by repeat (first | exact pm_refl _ | constructor | refine pm_skip ?_))⟩⟩
  have c3p := oT c3
  refine wcR ?_
  refine wV (v_fb (o2 := 2) fa69_2 rfl rfl) ?_
  refine wV (v_load one9 rfl (H16.at (by repeat constructor) rfl)) ?_
  refine wV (v_bld ba24 rfl (by repeat constructor)) ?_
  refine wl_store (vs := [_, _, _, _]) H16 (by repeat constructor) sz24 rfl rfl rfl rfl rfl (by (repeat constructor)) ?_
  intro w19 H20 hw19
  refine wl_nil ?_
  refine wcR ?_
  refine wA ?_
  refine wl_nil ?_
  refine wc_block ?_
  refine wc_loop (σ := Nat × List Nd × Int × Int × Option Addr × Nat) (fun s' => [(0, .pointer (some ⟨bm, 0, none⟩)), (2, .slice D ds.length kd), (4, .pointer (some ⟨b4, 0, none⟩)), (6, .pointer (some ⟨b6, 0, none⟩)), (7, .pointer (some ⟨b7, 0, none⟩)), (8, .int .i64 s'.1)]) (fun s' W => ((s'.1 ≤ t.kids.length ∧ s'.2.1.length = s'.1) ∧ MRes made why (1 + Tr.cnts ((t.kids.take s'.1).map (actV (ds.map (valD g))))) s'.2.2.1 s'.2.2.2.1 ∧ (s'.2.2.2.1 = 0 → s'.2.1 = (t.kids.take s'.1).map (actV (ds.map (valD g))))) ∧ Holds w0 (Blk b7 24 [.int .i64 3, .string t.x.name, .int .i64 0, .slice s'.2.2.2.2.1 s'.2.1.length s'.2.2.2.2.2] :: FRow (krTr fNd) w0 no 24 (.slice s'.2.2.2.2.1 s'.2.1.length s'.2.2.2.2.2) s'.2.1 :: Blk bm 115 [.slice a.k g.kinds.length a.ck, .slice a.p g.precs.length a.cp, .slice a.r g.rules.length a.cr, .slice a.q g.prods.length a.cq, .int .i64 g.start, .int .i64 s'.2.2.1, .int .i64 s'.2.2.2.1] :: Blk b6 24 [.int .i64 0, .string ⟨#[]⟩, .int .i64 0, .slice none 0 0] :: Blk b4 69 [.int .i64 t.x.kind, .int .i64 t.x.at_, .string t.x.name, .slice B t.kids.length k] :: L) W) (fun s' => t.kids.length - s'.1) (0, [], made + 1, why1, none, 0) (sc rfl (sc rfl (sc rfl (sc rfl (sc rfl (sc rfl (sn _))))))) ⟨⟨⟨Nat.zero_le _, rfl⟩, hr1, fun _ => rfl⟩, (H20.frNil (krTr fNd) w0 no 24).pm (by repeat (first | exact pm_refl _ | constructor | refine pm_skip ?_))⟩ ?_
  rintro ⟨i, ts, m1, y1, A5, cz⟩ W0 ⟨⟨⟨hi, hl⟩, hp, hq⟩, H⟩
  dsimp only at hi hl hp hq H ⊢
  refine wc_seq ?_
  refine wcR ?_
  refine wM ?_
  refine wV (v_fb (o2 := 3) fa69_3 rfl rfl) ?_
  refine wV (v_load one67 rfl (H.at (by repeat constructor) rfl)) ?_
  refine wV (v_len Try.underlying67 rfl) ?_
  refine wV (v_lss rfl rfl) ?_
  refine wl_nil ?_
  refine wc_cond rfl (fun c4 => ?_) (fun c4 => ?_)
  rotate_left
  ·have c4p := oF c4
   refine wc_exit ?_
   first
     | (have q_ := ts
        rw [List.take_of_length_le (by omega)] at hp hq
        rw [show t.kids.length = ts.length by omega] at *
        exact ⟨(.mk ⟨3, t.x.name, 0⟩ ts, m1, y1, A5, cz), (sc rfl (sc rfl (sc rfl (sc rfl (sc rfl (sn _)))))), ⟨⟨by rw [actV_node c3p, Tr.cnt_eq]; exact hp, fun h => by rw [actV_node c3p]; exact congrArg (Tr.mk _) (hq h)⟩, ((H.turn (A := FRow (krTr fNd) w0 no 24 (.slice A5 ts.length cz) ts) (by repeat constructor)).frzTr ⟨3, t.x.name, 0⟩).pm (by repeat (first | exact pm_refl _ | constructor | refine pm_skip ?_))⟩⟩)
     | exact ⟨(.mk ⟨2, t.x.name, 0⟩ [], made + 1, why1, none, 0), (sc rfl (sc rfl (sc rfl (sc rfl (sc rfl (sn _)))))), ⟨⟨by rw [actV_text c2p]; exact hr1, fun _ => (actV_text c2p).symm⟩, (H.nxLeaf (f := fNd) (T := no) ⟨2, t.x.name, 0⟩).pm (by repeat (first | exact pm_refl _ | constructor | refine pm_skip ?_))⟩⟩
     | exact ⟨(nd0, made + 1, why1, none, 0), (sc rfl (sc rfl (sc rfl (sc rfl (sc rfl (sn _)))))), ⟨⟨by rw [actV_none c1p c3p c2p]; exact hr1, fun _ => (actV_none c1p c3p c2p).symm⟩, (H.nxLeaf (f := fNd) (T := no) ⟨0, ⟨#[]⟩, 0⟩).pm (by repeat (first | exact pm_refl _ | constructor | refine pm_skip ?_))⟩⟩
  have c4p := oT c4
  refine wc_skip ?_
  refine wc_seq ?_
  refine wc_block ?_
  refine wc_tree [0, 1, 2, 3, 4, 5, 6, 7, 8] (fun W => Holds w0 (Blk b7 24 [.int .i64 3, .string t.x.name, .int .i64 0, .slice A5 ts.length cz] :: Blk b4 69 [.int .i64 t.x.kind, .int .i64 t.x.at_, .string t.x.name, .slice B t.kids.length k] :: L) W) mixed ?_
  have Hd := H.drew
  have HSd : Holds w0 (Blk b7 24 [.int .i64 3, .string t.x.name, .int .i64 0, .slice A5 ts.length cz] :: Blk b4 69 [.int .i64 t.x.kind, .int .i64 t.x.at_, .string t.x.name, .slice B t.kids.length k] :: L) _ := Hd.pm (by repeat (first | exact pm_refl _ | constructor | refine pm_skip ?_))
  refine wjV (k := 0) rfl HSd (fun W HW => v_fb (o2 := 3) fa24_3 rfl rfl) ?_
  refine wjV (k := 1) rfl HSd (fun W HW => v_load one22 rfl (HW.at (by repeat constructor) rfl)) ?_
  refine wjV (k := 2) rfl HSd (fun W HW => v_move rfl) ?_
  refine wjV (k := 3) rfl HSd (fun W HW => v_fb (o2 := 3) fa69_3 rfl rfl) ?_
  refine wjV (k := 4) rfl HSd (fun W HW => v_load one67 rfl (HW.at (by repeat constructor) rfl)) ?_
  refine wjV (k := 5) rfl HSd (fun W HW => v_move rfl) ?_
  refine wjV (k := 6) rfl HSd (fun W HW => v_idx Try.underlying67 sz69 ht.ad rfl rfl (by omega) (by omega)) ?_
  obtain ⟨B54_, k54_, hc54_, hl54_, hr54_⟩ := ht.atTr ac0 (i := i) (by omega)
  refine wjV (k := 7) rfl HSd (fun W HW => v_loadN (cs := [.int .i64 (t.kids.getD i ac0).x.kind, .int .i64 (t.kids.getD i ac0).x.at_, .string (t.kids.getD i ac0).x.name, .slice B54_ (t.kids.getD i ac0).kids.length k54_]) agg69 rfl rfl (fun q_ u_ hu_ => HW.cell (hc54_ q_ u_ hu_))) ?_
  refine wjV (k := 8) rfl HSd (fun W HW => v_move rfl) ?_
  refine wj_t (k := 9) rfl (by kernel_rfl) ?_
  refine wl_call en73 rfl rfl (ih _ (getD_mem (z := ac0) (show i < t.kids.length by omega)) a w0 _ _ B54_ D bm k54_ kd m1 y1 hrg hr hr54_ (Tr.Alls_at ac0 (by omega) hks) (by have h_ := Tr.cnts_succ ac0 t.kids i (by omega); have h2_ := Tr.cnts_take t.kids (i + 1); omega) hp.1 (Hd.turn (A := Blk bm 115 [.slice a.k g.kinds.length a.ck, .slice a.p g.precs.length a.cp, .slice a.r g.rules.length a.cr, .slice a.q g.prods.length a.cq, .int .i64 g.start, .int .i64 m1, .int .i64 y1]) (by repeat constructor))) ?_
  rintro _ w21 ⟨t2, made2, why2, Ax, cx, rfl, hres, Hc⟩
  have HS22 : Holds w0 (Blk b7 24 [.int .i64 3, .string t.x.name, .int .i64 0, .slice A5 ts.length cz] :: Blk b4 69 [.int .i64 t.x.kind, .int .i64 t.x.at_, .string t.x.name, .slice B t.kids.length k] :: L) _ := Hc.pm (by repeat (first | exact pm_refl _ | constructor | refine pm_skip ?_))
  refine wl_nil (tn ⟨fun _ => HS22, ?_⟩)
  refine wj_t (k := 10) rfl (by kernel_rfl) ?_
  refine wl_slit (v := .agg #[.int .i64 0, .string ⟨#[]⟩, .int .i64 0, .slice none 0 0]) (z := [.int .i64 0, .string ⟨#[]⟩, .int .i64 0, .slice none 0 0]) (cs := [.int .i64 t2.x.kind, .string t2.x.name, .int .i64 t2.x.tok, .slice Ax t2.kids.length cx]) (sz := 4) Hc rfl Try.underlying22 sz24 zv24 (by decide) (by decide) (by kernel_rfl) rfl (by repeat constructor) ?_
  intro b57 w23 hb57 H23 hs23
  have HS24 : Holds w0 (Blk b7 24 [.int .i64 3, .string t.x.name, .int .i64 0, .slice A5 ts.length cz] :: Blk b4 69 [.int .i64 t.x.kind, .int .i64 t.x.at_, .string t.x.name, .slice B t.kids.length k] :: L) _ := H23.pm (by repeat (first | exact pm_refl _ | constructor | refine pm_skip ?_))
  refine wl_nil (tn ⟨fun _ => HS24, ?_⟩)
  refine wj_t (k := 11) rfl (by kernel_rfl) ?_
  refine wl_appF (cs := [.int .i64 t2.x.kind, .string t2.x.name, .int .i64 t2.x.tok, .slice Ax t2.kids.length cx]) (x' := t2) H23 (by repeat constructor) (by repeat constructor) (H23.ats (by repeat constructor)) rfl Try.underlying22 info24 rfl (by decide) rfl rfl (by omega) (by decide) ?_
  intro A58 c58 w25 H25 hs25
  refine wl_nil (tn ⟨fun hlt => absurd hlt (by rw [show allH _ _ _ = true by kernel_rfl]; simp), ?_⟩)
  refine wj_t (k := 12) rfl (by kernel_rfl) ?_
  refine wV (v_fb (o2 := 3) fa24_3 rfl rfl) ?_
  refine wl_nil (tn ⟨fun hlt => absurd hlt (by rw [show allH _ _ _ = true by kernel_rfl]; simp), ?_⟩)
  refine wj_t (k := 13) rfl (by kernel_rfl) ?_
  refine wl_store (vs := [_]) H25 (by repeat constructor) sz22 rfl rfl rfl rfl rfl (by (repeat constructor)) ?_
  intro w28 H29 hw28
  refine wl_nil (tn ⟨fun hlt => absurd hlt (by rw [show allH _ _ _ = true by kernel_rfl]; simp), ?_⟩)
  refine wj_done (by kernel_rfl) ?_
  refine wc_region ?_
  refine wM ?_
  refine wV (v_addi rfl rfl (by omega)) ?_
  refine wA ?_
  refine wl_nil ?_
  have hsc := map_succ (actV (ds.map (valD g))) ac0 (show i < t.kids.length by omega)
  exact ⟨(i + 1, ts ++ [t2], made2, why2, A58, c58), (sc rfl (sc rfl (sc rfl (sc rfl (sc rfl (sc rfl (sn _))))))), ⟨⟨⟨by dsimp only; omega, by rw [List.length_append, hl]; rfl⟩, by dsimp only; rw [hsc, cnts_app, ← Nat.add_assoc]; exact hp.cat hres.1, fun h => by dsimp only; rw [hsc, hq (hres.1.zero h), hres.2 h]⟩, H29.pm (by repeat (first | exact pm_refl _ | constructor | refine pm_skip ?_))⟩, by dsimp only; omega⟩

theorem ract_calls {g : Pl} {ds : List Dv} (hds : ∀ d ∈ ds, d.All (dvOk g) ∧ d.cnt ≤ 1099511627776) (ihd : ∀ d ∈ ds, RValOk g d) : ∀ t : Ac, RActOk g ds t := Tr.ind fun x kids ih => fun a w0 w L B D bm k kd made why hrg hr ht hall hcn hs HH => ract_step (t := .mk x kids) hrg hr ht hall hcn hs HH hds ihd ih

set_option maxHeartbeats 6400000 in
set_option maxRecDepth 100000 in
theorem rval_step {g : Pl} {a : PlA} {w0 w : World} {L : List Ch} {B : Option Addr} {bm k : Nat} {made why : Int} {d : Dv} (hact : ActsOk g) (hgq : g.prods.length ≤ 1099511627776) (hrg : g.rd w0 a) (hr : Rd (kTr fDv) w0 B d.kids) (hd : d.All (dvOk g)) (hcn : d.cnt ≤ 1099511627776) (hs : MSt made why) (HH : Holds w0 (Blk bm 115 [.slice a.k g.kinds.length a.ck, .slice a.p g.precs.length a.cp, .slice a.r g.rules.length a.cr, .slice a.q g.prods.length a.cq, .int .i64 g.start, .int .i64 made, .int .i64 why] :: L) w) (ih : ∀ t' ∈ d.kids, RValOk g t') : Calls Try.prog 45 #[.pointer (some ⟨bm, 0, none⟩), .agg #[.int .i64 d.x.prod, .int .i64 d.x.tok, .slice B d.kids.length k]] w fun e w' => ∃ v, e = .returned v ∧ ∃ (t2 : Nd) (made2 why2 : Int) (A' : Option Addr) (c' : Nat), v = .agg #[.int .i64 t2.x.kind, .string t2.x.name, .int .i64 t2.x.tok, .slice A' t2.kids.length c'] ∧ (MRes made why (valD g d).cnt made2 why2 ∧ (why2 = 0 → t2 = (valD g d))) ∧ Holds w0 (NX (krTr fNd) w0 no t2 [.int .i64 t2.x.kind, .string t2.x.name, .int .i64 t2.x.tok, .slice A' t2.kids.length c'] :: Blk bm 115 [.slice a.k g.kinds.length a.ck, .slice a.p g.precs.length a.cp, .slice a.r g.rules.length a.cr, .slice a.q g.prods.length a.cq, .int .i64 g.start, .int .i64 made2, .int .i64 why2] :: L) w' := by
  obtain ⟨hd0, hds⟩ := (Tr.All_eq d).1 hd
  have hcnt := Tr.cnt_eq d
  have hkl := Tr.cnts_len d.kids
  have hs0 := hs.1
  refine calls_of Try.func45 rfl Try.ntmps45 rfl ?_
  have H := HH
  refine wcR ?_
  refine wl_box (cs := [_, _, _]) H rfl rfl rfl ?_
  intro b3 w1 hb3 H2
  refine wl_alloc (cs := [.int .i64 0, .string ⟨#[]⟩, .int .i64 0, .slice none 0 0]) H2 rfl zv24 rfl ?_
  intro b4 w3 hb4 H4
  refine wl_nil ?_
  refine wc_seq ?_
  refine wcR ?_
  refine wM ?_
  refine wV (v_nil rfl) ?_
  refine wV (v_fb (o2 := 6) fa115_2 rfl rfl) ?_
  refine wV (v_load one3 rfl (H4.at (by repeat constructor) rfl)) ?_
  refine wV (v_neq rfl rfl) ?_
  refine wl_nil ?_
  refine wc_cond rfl (fun c0 => ?_) (fun c0 => ?_)
  ·have c0p := of_nd_t c0
   refine wcR ?_
   refine wV (v_bld ba24 rfl (by repeat constructor)) ?_
   refine wl_store (vs := [_, _, _, _]) H4 (by repeat constructor) sz24 rfl rfl rfl rfl rfl (by (repeat constructor)) ?_
   intro w5 H6 hw5
   refine wl_nil ?_
   refine wc_ret ?_
   first
     | (have q_ := hres
        refine ⟨_, resc rfl rfl (run_loadVarN agg24 rfl (H6.ats (by repeat constructor))), t2, made2, why2, Ax, cx, rfl, ?_, H6.pm (by repeat (first | exact pm_refl _ | constructor | refine pm_skip ?_))⟩
        rw [valD_node c1p]
        exact hres)
     | (have q_ := hr1
        refine ⟨_, resc rfl rfl (run_loadVarN agg24 rfl (H6.ats (by repeat constructor))), .mk ⟨1, ⟨#[]⟩, d.x.tok⟩ [], made + 1, why1, none, 0, rfl, ?_, (H6.nxLeaf (f := fNd) (T := no) ⟨1, ⟨#[]⟩, d.x.tok⟩).pm (by repeat (first | exact pm_refl _ | constructor | refine pm_skip ?_))⟩
        rw [valD_leaf c1p]
        exact ⟨hr1, fun _ => rfl⟩)
     | exact ⟨_, resc rfl rfl (run_loadVarN agg24 rfl (H6.ats (by repeat constructor))), nd0, made, why, none, 0, rfl, ⟨MRes.stuck hs c0p, fun h => absurd h c0p⟩, (H6.nxLeaf (f := fNd) (T := no) ⟨0, ⟨#[]⟩, 0⟩).pm (by repeat (first | exact pm_refl _ | constructor | refine pm_skip ?_))⟩
  have c0p := of_nd_f c0
  refine wc_skip ?_
  refine wc_seq ?_
  refine wcR ?_
  refine wV (v_fb (o2 := 0) fa50_0 rfl rfl) ?_
  refine wV (v_load one3 rfl (H4.at (by repeat constructor) rfl)) ?_
  refine wV (v_lss rfl rfl) ?_
  refine wl_nil ?_
  refine wc_cond rfl (fun c1 => ?_) (fun c1 => ?_)
  ·have c1p := oT c1
   refine wcR ?_
   refine wM ?_
   refine wl_call en72 rfl rfl (made_calls hs0 (H4.turn (A := Blk bm 115 [.slice a.k g.kinds.length a.ck, .slice a.p g.precs.length a.cp, .slice a.r g.rules.length a.cr, .slice a.q g.prods.length a.cq, .int .i64 g.start, .int .i64 made, .int .i64 why]) (by repeat constructor))) ?_
   rintro _ w7 ⟨why1, hw1, Hc⟩
   have hr1 := MRes.one hs c0p hw1
   refine wl_nil ?_
   refine wcR ?_
   refine wV (v_fb (o2 := 1) fa50_1 rfl rfl) ?_
   refine wV (v_load one3 rfl (Hc.at (by repeat constructor) rfl)) ?_
   refine wV (v_bld ba24 rfl (by repeat constructor)) ?_
   refine wl_store (vs := [_, _, _, _]) Hc (by repeat constructor) sz24 rfl rfl rfl rfl rfl (by (repeat constructor)) ?_
   intro w8 H9 hw8
   refine wl_nil ?_
   refine wc_ret ?_
   first
     | (have q_ := hres
        refine ⟨_, resc rfl rfl (run_loadVarN agg24 rfl (H9.ats (by repeat constructor))), t2, made2, why2, Ax, cx, rfl, ?_, H9.pm (by repeat (first | exact pm_refl _ | constructor | refine pm_skip ?_))⟩
        rw [valD_node c1p]
        exact hres)
     | (have q_ := hr1
        refine ⟨_, resc rfl rfl (run_loadVarN agg24 rfl (H9.ats (by repeat constructor))), .mk ⟨1, ⟨#[]⟩, d.x.tok⟩ [], made + 1, why1, none, 0, rfl, ?_, (H9.nxLeaf (f := fNd) (T := no) ⟨1, ⟨#[]⟩, d.x.tok⟩).pm (by repeat (first | exact pm_refl _ | constructor | refine pm_skip ?_))⟩
        rw [valD_leaf c1p]
        exact ⟨hr1, fun _ => rfl⟩)
     | exact ⟨_, resc rfl rfl (run_loadVarN agg24 rfl (H9.ats (by repeat constructor))), nd0, made, why, none, 0, rfl, ⟨MRes.stuck hs c0p, fun h => absurd h c0p⟩, (H9.nxLeaf (f := fNd) (T := no) ⟨0, ⟨#[]⟩, 0⟩).pm (by repeat (first | exact pm_refl _ | constructor | refine pm_skip ?_))⟩
  have c1p := oF c1
  have hdr : (0 ≤ d.x.prod ∧ d.x.prod < g.prods.length) ∧ d.kids.length = (g.prods.getD d.x.prod.toNat pr0).right.length := hd0.elim (fun h => absurd h c1p) (fun h => h)
  refine wc_skip ?_
  refine wc_seq ?_
  refine wc_tree [0, 1, 2, 3, 4, 5, 6, 7, 8, 9, 10, 11, 12] (fun W => Holds w0 (Blk b3 50 [.int .i64 d.x.prod, .int .i64 d.x.tok, .slice B d.kids.length k] :: Blk bm 115 [.slice a.k g.kinds.length a.ck, .slice a.p g.precs.length a.cp, .slice a.r g.rules.length a.cr, .slice a.q g.prods.length a.cq, .int .i64 g.start, .int .i64 made, .int .i64 why] :: L) W) mixed ?_
  have Hd := H4.drew
  have HSd : Holds w0 (Blk b3 50 [.int .i64 d.x.prod, .int .i64 d.x.tok, .slice B d.kids.length k] :: Blk bm 115 [.slice a.k g.kinds.length a.ck, .slice a.p g.precs.length a.cp, .slice a.r g.rules.length a.cr, .slice a.q g.prods.length a.cq, .int .i64 g.start, .int .i64 made, .int .i64 why] :: L) _ := Hd.pm (by repeat (first | exact pm_refl _ | constructor | refine pm_skip ?_))
  refine wjV (k := 0) rfl HSd (fun W HW => v_move rfl) ?_
  refine wjV (k := 1) rfl HSd (fun W HW => v_move rfl) ?_
  refine wjV (k := 2) rfl HSd (fun W HW => v_nil rfl) ?_
  refine wjV (k := 3) rfl HSd (fun W HW => v_fb (o2 := 0) fa115_0 rfl rfl) ?_
  refine wjV (k := 4) rfl HSd (fun W HW => v_fb (o2 := 3) fa44_3 rfl rfl) ?_
  refine wjV (k := 5) rfl HSd (fun W HW => v_load one42 rfl (HW.at (by repeat constructor) rfl)) ?_
  refine wjV (k := 6) rfl HSd (fun W HW => v_fb (o2 := 0) fa50_0 rfl rfl) ?_
  refine wjV (k := 7) rfl HSd (fun W HW => v_load one3 rfl (HW.at (by repeat constructor) rfl)) ?_
  refine wjV (k := 8) rfl HSd (fun W HW => v_idx Try.underlying42 sz73 hrg.q.ad rfl rfl (by omega) (by omega)) ?_
  refine wjV (k := 9) rfl HSd (fun W HW => v_fp fa73_3 rfl) ?_
  obtain ⟨R29_, c29_, B29_, k29_, hc29_, hl29_, hR29_, hB29_⟩ := hrg.q.atPrI (i := d.x.prod) (by omega) (by omega)
  refine wjV (k := 10) rfl HSd (fun W HW => v_loadN (cs := [.int .i64 (g.prods.getD d.x.prod.toNat pr0).act.x.kind, .int .i64 (g.prods.getD d.x.prod.toNat pr0).act.x.at_, .string (g.prods.getD d.x.prod.toNat pr0).act.x.name, .slice B29_ (g.prods.getD d.x.prod.toNat pr0).act.kids.length k29_]) agg69 rfl rfl (fun q_ u_ hu_ => HW.cell (by rw [add_add]; exact hc29_ (3 + q_) u_ (cut_eq (k := 4) rfl q_ u_ hu_)))) ?_
  refine wjV (k := 11) rfl HSd (fun W HW => v_fb (o2 := 2) fa50_2 rfl rfl) ?_
  refine wjV (k := 12) rfl HSd (fun W HW => v_load one48 rfl (HW.at (by repeat constructor) rfl)) ?_
  refine wj_t (k := 13) rfl (by kernel_rfl) ?_
  refine wl_call en73 rfl rfl (ract_calls (fun t' ht' => ⟨(Tr.Alls_iff _).1 hds t' ht', Nat.le_trans (cnt_mem ht') (by omega)⟩) ih (g.prods.getD d.x.prod.toNat pr0).act a w0 _ _ B29_ B bm k29_ k made why hrg hr hB29_ (by rw [hdr.2]; exact (hact _ (by omega)).1) (by have := (hact d.x.prod.toNat (by omega)).2; omega) hs (Hd.turn (A := Blk bm 115 [.slice a.k g.kinds.length a.ck, .slice a.p g.precs.length a.cp, .slice a.r g.rules.length a.cr, .slice a.q g.prods.length a.cq, .int .i64 g.start, .int .i64 made, .int .i64 why]) (by repeat constructor))) ?_
  rintro _ w10 ⟨t2, made2, why2, Ax, cx, rfl, hres, Hc⟩
  refine wl_nil (tn ⟨fun hlt => absurd hlt (by rw [show allH _ _ _ = true by kernel_rfl]; simp), ?_⟩)
  refine wj_t (k := 14) rfl (by kernel_rfl) ?_
  refine wl_store (vs := [_, _, _, _]) Hc (by repeat constructor) sz24 rfl rfl rfl rfl rfl (by (repeat constructor)) ?_
  intro w12 H13 hw12
  refine wl_nil (tn ⟨fun hlt => absurd hlt (by rw [show allH _ _ _ = true by kernel_rfl]; simp), ?_⟩)
  refine wj_done (by kernel_rfl) ?_
  refine wc_ret ?_
  first
    | (have q_ := hres
       refine ⟨_, resc rfl rfl (run_loadVarN agg24 rfl (H13.ats (by repeat constructor))), t2, made2, why2, Ax, cx, rfl, ?_, H13.pm (by repeat (first | exact pm_refl _ | constructor | refine pm_skip ?_))⟩
       rw [valD_node c1p]
       exact hres)
    | (have q_ := hr1
       refine ⟨_, resc rfl rfl (run_loadVarN agg24 rfl (H13.ats (by repeat constructor))), .mk ⟨1, ⟨#[]⟩, d.x.tok⟩ [], made + 1, why1, none, 0, rfl, ?_, (H13.nxLeaf (f := fNd) (T := no) ⟨1, ⟨#[]⟩, d.x.tok⟩).pm (by repeat (first | exact pm_refl _ | constructor | refine pm_skip ?_))⟩
       rw [valD_leaf c1p]
       exact ⟨hr1, fun _ => rfl⟩)
    | exact ⟨_, resc rfl rfl (run_loadVarN agg24 rfl (H13.ats (by repeat constructor))), nd0, made, why, none, 0, rfl, ⟨MRes.stuck hs c0p, fun h => absurd h c0p⟩, (H13.nxLeaf (f := fNd) (T := no) ⟨0, ⟨#[]⟩, 0⟩).pm (by repeat (first | exact pm_refl _ | constructor | refine pm_skip ?_))⟩

theorem rval_calls {g : Pl} (hact : ActsOk g) (hgq : g.prods.length ≤ 1099511627776) : ∀ d : Dv, RValOk g d := Tr.ind fun x kids ih => fun a w0 w L B bm k made why hrg hr hd hcn hs HH => rval_step (d := .mk x kids) hact hgq hrg hr hd hcn hs HH ih

set_option maxHeartbeats 6400000 in
set_option maxRecDepth 100000 in
theorem rvalue_calls {g : Pl} {a : PlA} {row : List Int} {w : World} {A B : Option Addr} {k cr : Nat} {d : Dv} (hg : g.ok) (hrg : g.rd w a) (hr : Rd (kTr fDv) w B d.kids) (hR : Rd (kInt .i64) w A row) (hl : row.length ≤ 1099511627776) (hcn : d.cnt ≤ 1099511627776) :
    Calls Try.prog 17 #[.agg #[.slice a.k g.kinds.length a.ck, .slice a.p g.precs.length a.cp, .slice a.r g.rules.length a.cr, .slice a.q g.prods.length a.cq, .int .i64 g.start], .agg #[.int .i64 d.x.prod, .int .i64 d.x.tok, .slice B d.kids.length k], .slice A row.length cr] w fun e w' => ∃ v, e = .returned v ∧ ∃ A' c', v = .tuple #[.agg #[.int .i64 (valR g d row).x.kind, .string (valR g d row).x.name, .int .i64 (valR g d row).x.tok, .slice A' (valR g d row).kids.length c'], .int .i64 (valE g d row)] ∧ Holds w [NX (krTr fNd) w no (valR g d row) [.int .i64 (valR g d row).x.kind, .string (valR g d row).x.name, .int .i64 (valR g d row).x.tok, .slice A' (valR g d row).kids.length c']] w' := by
  have hgk := hg.k
  have hgr := hg.r
  have hgq := hg.q
  refine calls_of Try.func17 rfl Try.ntmps17 rfl ?_
  have H := Holds.start w
  refine wcR ?_
  refine wl_box (cs := [_, _, _, _, _]) H rfl rfl rfl ?_
  intro b3 w1 hb3 H2
  refine wl_box (cs := [_, _, _]) H2 rfl rfl rfl ?_
  intro b4 w3 hb4 H4
  refine wl_alloc (cs := [.int .i64 0, .string ⟨#[]⟩, .int .i64 0, .slice none 0 0]) H4 rfl zv24 rfl ?_
  intro b6 w5 hb6 H6
  refine wA ?_
  refine wl_nil ?_
  refine wc_seq ?_
  refine wcR ?_
  refine wV (v_loadN agg44 rfl rfl (H6.ats (by repeat constructor))) ?_
  refine wl_call en42 rfl rfl (right_calls (hrg.below H6.old) hg) ?_
  rintro _ w7 ⟨rfl, Hc⟩
  have H8 := H6.call0 Hc
  refine wV (v_not rfl) ?_
  refine wl_nil ?_
  refine wc_cond rfl (fun c0 => ?_) (fun c0 => ?_)
  ·have c0p := of_n_t c0
   refine wcR ?_
   refine wV (v_bld ba24 rfl (by repeat constructor)) ?_
   refine wl_store (vs := [_, _, _, _]) H8 (by repeat constructor) sz24 rfl rfl rfl rfl rfl (by (repeat constructor)) ?_
   intro w9 H10 hw9
   refine wA ?_
   refine wl_nil ?_
   refine wc_ret ?_
   first
     | (have q_ := c3p
        obtain ⟨e1_, e2_⟩ := valE_many hD (show ¬ (valD g d).cnt ≤ 65536 from fun h_ => by have h2_ := hres.1.2.1 ⟨rfl, by omega⟩; omega)
        have e3_ : why2 = 213 := by (have h_ := hres.1.1.2; omega)
        subst e3_
        rw [e1_, e2_]
        exact ⟨_, resc2 rfl rfl (run_loadVarN agg24 rfl (H10.ats (by repeat constructor))) rfl, none, 0, rfl, (H10.nxLeaf (f := fNd) (T := no) ⟨0, ⟨#[]⟩, 0⟩).pm (by repeat constructor)⟩)
     | (have q_ := c3p
        obtain ⟨e1_, e2_⟩ := valE_ok hD (show (valD g d).cnt ≤ 65536 from Classical.byContradiction fun h_ => by have h2_ := hres.1.2.2 (fun h3_ => h_ (by omega)); omega)
        obtain rfl := hres.2 c3p
        rw [e1_, e2_]
        exact ⟨_, resc2 rfl rfl (run_loadVarN agg24 rfl (H10.ats (by repeat constructor))) rfl, Ax, cx, rfl, H10.pm (by repeat constructor)⟩)
     | (have q_ := hG
        obtain ⟨e1_, e2_⟩ := valE_none hG (of_ndec (of_n_t c1))
        rw [e1_, e2_]
        exact ⟨_, resc2 rfl rfl (run_loadVarN agg24 rfl (H10.ats (by repeat constructor))) rfl, none, 0, rfl, (H10.nxLeaf (f := fNd) (T := no) ⟨0, ⟨#[]⟩, 0⟩).pm (by repeat constructor)⟩)
     | (obtain ⟨e1_, e2_⟩ := valE_plain (d := d) (row := row) (of_ndec (of_n_t c0))
        rw [e1_, e2_]
        exact ⟨_, resc2 rfl rfl (run_loadVarN agg24 rfl (H10.ats (by repeat constructor))) rfl, none, 0, rfl, (H10.nxLeaf (f := fNd) (T := no) ⟨0, ⟨#[]⟩, 0⟩).pm (by repeat constructor)⟩)
  have c0p := of_n_f c0
  have hG : GOk g := of_dec (of_n_f c0)
  refine wc_skip ?_
  refine wc_seq ?_
  refine wcR ?_
  refine wV (v_loadN agg44 rfl rfl (H8.ats (by repeat constructor))) ?_
  refine wV (v_loadN agg50 rfl rfl (H8.ats (by repeat constructor))) ?_
  refine wM ?_
  refine wl_call en43 rfl rfl (rdcheck_calls hg (hrg.below H8.old) (hr.below H8.old) (hR.below H8.old) hl hcn) ?_
  rintro _ w11 ⟨rfl, Hc⟩
  have H12 := H8.call0 Hc
  refine wV (v_not rfl) ?_
  refine wl_nil ?_
  refine wc_cond rfl (fun c1 => ?_) (fun c1 => ?_)
  ·have c1p := of_n_t c1
   refine wcR ?_
   refine wV (v_bld ba24 rfl (by repeat constructor)) ?_
   refine wl_store (vs := [_, _, _, _]) H12 (by repeat constructor) sz24 rfl rfl rfl rfl rfl (by (repeat constructor)) ?_
   intro w13 H14 hw13
   refine wA ?_
   refine wl_nil ?_
   refine wc_ret ?_
   first
     | (have q_ := c3p
        obtain ⟨e1_, e2_⟩ := valE_many hD (show ¬ (valD g d).cnt ≤ 65536 from fun h_ => by have h2_ := hres.1.2.1 ⟨rfl, by omega⟩; omega)
        have e3_ : why2 = 213 := by (have h_ := hres.1.1.2; omega)
        subst e3_
        rw [e1_, e2_]
        exact ⟨_, resc2 rfl rfl (run_loadVarN agg24 rfl (H14.ats (by repeat constructor))) rfl, none, 0, rfl, (H14.nxLeaf (f := fNd) (T := no) ⟨0, ⟨#[]⟩, 0⟩).pm (by repeat constructor)⟩)
     | (have q_ := c3p
        obtain ⟨e1_, e2_⟩ := valE_ok hD (show (valD g d).cnt ≤ 65536 from Classical.byContradiction fun h_ => by have h2_ := hres.1.2.2 (fun h3_ => h_ (by omega)); omega)
        obtain rfl := hres.2 c3p
        rw [e1_, e2_]
        exact ⟨_, resc2 rfl rfl (run_loadVarN agg24 rfl (H14.ats (by repeat constructor))) rfl, Ax, cx, rfl, H14.pm (by repeat constructor)⟩)
     | (have q_ := hG
        obtain ⟨e1_, e2_⟩ := valE_none hG (of_ndec (of_n_t c1))
        rw [e1_, e2_]
        exact ⟨_, resc2 rfl rfl (run_loadVarN agg24 rfl (H14.ats (by repeat constructor))) rfl, none, 0, rfl, (H14.nxLeaf (f := fNd) (T := no) ⟨0, ⟨#[]⟩, 0⟩).pm (by repeat constructor)⟩)
     | (obtain ⟨e1_, e2_⟩ := valE_plain (d := d) (row := row) (of_ndec (of_n_t c0))
        rw [e1_, e2_]
        exact ⟨_, resc2 rfl rfl (run_loadVarN agg24 rfl (H14.ats (by repeat constructor))) rfl, none, 0, rfl, (H14.nxLeaf (f := fNd) (T := no) ⟨0, ⟨#[]⟩, 0⟩).pm (by repeat constructor)⟩)
  have c1p := of_n_f c1
  have hD : DrvOk g d row := of_dec (of_n_f c1)
  have hact := hG.acts
  refine wc_skip ?_
  refine wcR ?_
  refine wV (v_loadN agg44 rfl rfl (H12.ats (by repeat constructor))) ?_
  refine wV (v_bld ba115 rfl (by repeat constructor)) ?_
  refine wl_alloc (cs := [.slice none 0 0, .slice none 0 0, .slice none 0 0, .slice none 0 0, .int .i64 0, .int .i64 0, .int .i64 0]) H12 rfl zv115 rfl ?_
  intro b8 w15 hb8 H16
  refine wl_store (vs := [_, _, _, _, _, _, _]) H16 (by repeat constructor) sz115 rfl rfl rfl rfl rfl (by (repeat constructor)) ?_
  intro w17 H18 hw17
  refine wl_nil ?_
  refine wc_seq ?_
  refine wcR ?_
  refine wV (v_loadN agg50 rfl rfl (H18.ats (by repeat constructor))) ?_
  refine wl_call en44 rfl rfl (all_calls hact hgq d a _ B b8 k (by (have h_ := H18.atsN (b := b8) (off := 0) (k := 5) (cs' := [.slice a.k g.kinds.length a.ck, .slice a.p g.precs.length a.cp, .slice a.r g.rules.length a.cr, .slice a.q g.prods.length a.cq, .int .i64 g.start]) (by repeat constructor) rfl; intro j u hu; have h2_ := h_ j u hu; rwa [Addr.add_lit, Nat.zero_add] at h2_)) (hrg.below H18.old) (hr.below H18.old) hD.dv hcn) ?_
  rintro _ w19 ⟨rfl, Hc⟩
  have H20 := H18.call0 Hc
  refine wV (v_not rfl) ?_
  refine wl_nil ?_
  refine wc_cond_f rfl ?_
  refine wc_skip ?_
  refine wcR ?_
  refine wV (v_loadN agg50 rfl rfl (H20.ats (by repeat constructor))) ?_
  refine wl_call en45 rfl rfl (rval_calls hact hgq d a w _ _ B b8 k 0 0 hrg hr hD.dv hcn ⟨by omega, .inl ⟨rfl, by omega⟩⟩ (H20.turn (A := Blk b8 115 [.slice a.k g.kinds.length a.ck, .slice a.p g.precs.length a.cp, .slice a.r g.rules.length a.cr, .slice a.q g.prods.length a.cq, .int .i64 g.start, .int .i64 0, .int .i64 0]) (by repeat constructor))) ?_
  rintro _ w21 ⟨t2, made2, why2, Ax, cx, rfl, hres, Hc⟩
  refine wl_alloc (cs := [.int .i64 0, .string ⟨#[]⟩, .int .i64 0, .slice none 0 0]) Hc rfl zv24 rfl ?_
  intro b9 w22 hb9 H23
  refine wl_store (vs := [_, _, _, _]) H23 (by repeat constructor) sz24 rfl rfl rfl rfl rfl (by (repeat constructor)) ?_
  intro w24 H25 hw24
  refine wl_nil ?_
  refine wc_seq ?_
  refine wcR ?_
  refine wV (v_fb (o2 := 6) fa115_2 rfl rfl) ?_
  refine wV (v_load one3 rfl (H25.at (by repeat constructor) rfl)) ?_
  refine wV (v_neq rfl rfl) ?_
  refine wl_nil ?_
  refine wc_cond rfl (fun c3 => ?_) (fun c3 => ?_)
  rotate_left
  ·have c3p := of_nd_f c3
   refine wc_skip ?_
   refine wcR ?_
   refine wV (v_loadN agg24 rfl rfl (H25.ats (by repeat constructor))) ?_
   refine wl_store (vs := [_, _, _, _]) H25 (by repeat constructor) sz24 rfl rfl rfl rfl rfl (by (repeat constructor)) ?_
   intro w30 H31 hw30
   refine wA ?_
   refine wl_nil ?_
   refine wc_ret ?_
   first
     | (have q_ := c3p
        obtain ⟨e1_, e2_⟩ := valE_many hD (show ¬ (valD g d).cnt ≤ 65536 from fun h_ => by have h2_ := hres.1.2.1 ⟨rfl, by omega⟩; omega)
        have e3_ : why2 = 213 := by (have h_ := hres.1.1.2; omega)
        subst e3_
        rw [e1_, e2_]
        exact ⟨_, resc2 rfl rfl (run_loadVarN agg24 rfl (H31.ats (by repeat constructor))) rfl, none, 0, rfl, (H31.nxLeaf (f := fNd) (T := no) ⟨0, ⟨#[]⟩, 0⟩).pm (by repeat constructor)⟩)
     | (have q_ := c3p
        obtain ⟨e1_, e2_⟩ := valE_ok hD (show (valD g d).cnt ≤ 65536 from Classical.byContradiction fun h_ => by have h2_ := hres.1.2.2 (fun h3_ => h_ (by omega)); omega)
        obtain rfl := hres.2 c3p
        rw [e1_, e2_]
        exact ⟨_, resc2 rfl rfl (run_loadVarN agg24 rfl (H31.ats (by repeat constructor))) rfl, Ax, cx, rfl, H31.pm (by repeat constructor)⟩)
     | (have q_ := hG
        obtain ⟨e1_, e2_⟩ := valE_none hG (of_ndec (of_n_t c1))
        rw [e1_, e2_]
        exact ⟨_, resc2 rfl rfl (run_loadVarN agg24 rfl (H31.ats (by repeat constructor))) rfl, none, 0, rfl, (H31.nxLeaf (f := fNd) (T := no) ⟨0, ⟨#[]⟩, 0⟩).pm (by repeat constructor)⟩)
     | (obtain ⟨e1_, e2_⟩ := valE_plain (d := d) (row := row) (of_ndec (of_n_t c0))
        rw [e1_, e2_]
        exact ⟨_, resc2 rfl rfl (run_loadVarN agg24 rfl (H31.ats (by repeat constructor))) rfl, none, 0, rfl, (H31.nxLeaf (f := fNd) (T := no) ⟨0, ⟨#[]⟩, 0⟩).pm (by repeat constructor)⟩)
  have c3p := of_nd_t c3
  refine wc_seq ?_
  refine wc_tree [0, 1, 2] (fun W => Holds w [Blk b8 115 [.slice a.k g.kinds.length a.ck, .slice a.p g.precs.length a.cp, .slice a.r g.rules.length a.cr, .slice a.q g.prods.length a.cq, .int .i64 g.start, .int .i64 made2, .int .i64 why2]] W) mixed ?_
  have Hd := H25.drew
  have HSd : Holds w [Blk b8 115 [.slice a.k g.kinds.length a.ck, .slice a.p g.precs.length a.cp, .slice a.r g.rules.length a.cr, .slice a.q g.prods.length a.cq, .int .i64 g.start, .int .i64 made2, .int .i64 why2]] _ := Hd.pm (by repeat constructor)
  refine wjV (k := 0) rfl HSd (fun W HW => v_bld ba24 rfl (by repeat constructor)) ?_
  refine wjV (k := 1) rfl HSd (fun W HW => v_fb (o2 := 6) fa115_2 rfl rfl) ?_
  refine wjV (k := 2) rfl HSd (fun W HW => v_load one3 rfl (HW.at (by repeat constructor) rfl)) ?_
  refine wj_t (k := 3) rfl (by kernel_rfl) ?_
  refine wl_store (vs := [_, _, _, _]) Hd (by repeat constructor) sz24 rfl rfl rfl rfl rfl (by (repeat constructor)) ?_
  intro w26 H27 hw26
  have HS28 : Holds w [Blk b8 115 [.slice a.k g.kinds.length a.ck, .slice a.p g.precs.length a.cp, .slice a.r g.rules.length a.cr, .slice a.q g.prods.length a.cq, .int .i64 g.start, .int .i64 made2, .int .i64 why2]] _ := H27.pm (by repeat constructor)
  refine wl_nil (tn ⟨fun _ => HS28, ?_⟩)
  refine wj_t (k := 4) rfl (by kernel_rfl) ?_
  refine wA ?_
  refine wl_nil (tn ⟨fun hlt => absurd hlt (by rw [show allH _ _ _ = true by kernel_rfl]; simp), ?_⟩)
  refine wj_done (by kernel_rfl) ?_
  refine wc_ret ?_
  first
    | (have q_ := c3p
       obtain ⟨e1_, e2_⟩ := valE_many hD (show ¬ (valD g d).cnt ≤ 65536 from fun h_ => by have h2_ := hres.1.2.1 ⟨rfl, by omega⟩; omega)
       have e3_ : why2 = 213 := by (have h_ := hres.1.1.2; omega)
       subst e3_
       rw [e1_, e2_]
       exact ⟨_, resc2 rfl rfl (run_loadVarN agg24 rfl (H27.ats (by repeat constructor))) rfl, none, 0, rfl, (H27.nxLeaf (f := fNd) (T := no) ⟨0, ⟨#[]⟩, 0⟩).pm (by repeat constructor)⟩)
    | (have q_ := c3p
       obtain ⟨e1_, e2_⟩ := valE_ok hD (show (valD g d).cnt ≤ 65536 from Classical.byContradiction fun h_ => by have h2_ := hres.1.2.2 (fun h3_ => h_ (by omega)); omega)
       obtain rfl := hres.2 c3p
       rw [e1_, e2_]
       exact ⟨_, resc2 rfl rfl (run_loadVarN agg24 rfl (H27.ats (by repeat constructor))) rfl, Ax, cx, rfl, H27.pm (by repeat constructor)⟩)
    | (have q_ := hG
       obtain ⟨e1_, e2_⟩ := valE_none hG (of_ndec (of_n_t c1))
       rw [e1_, e2_]
       exact ⟨_, resc2 rfl rfl (run_loadVarN agg24 rfl (H27.ats (by repeat constructor))) rfl, none, 0, rfl, (H27.nxLeaf (f := fNd) (T := no) ⟨0, ⟨#[]⟩, 0⟩).pm (by repeat constructor)⟩)
    | (obtain ⟨e1_, e2_⟩ := valE_plain (d := d) (row := row) (of_ndec (of_n_t c0))
       rw [e1_, e2_]
       exact ⟨_, resc2 rfl rfl (run_loadVarN agg24 rfl (H27.ats (by repeat constructor))) rfl, none, 0, rfl, (H27.nxLeaf (f := fNd) (T := no) ⟨0, ⟨#[]⟩, 0⟩).pm (by repeat constructor)⟩)
end Go.Proofs.Ytgdemplcpcacaaa.RValue

/-! Whether two nodes are the same. -/
namespace Go.Proofs.Ytgdemplcpcacaaa.SameN
open Go Go.RowKit Go.Proofs.YtgdemplcpcacaaaFx 
theorem agg24 : Agg Try.prog 24 4 := agg_of Try.underlying24 (by kernel_rfl)
theorem en14 : Enters Try.prog 14 := enters Try.func14 (by kernel_rfl) rfl
theorem en27 : Enters Try.prog 27 := enters Try.func27 (by kernel_rfl) rfl
theorem fa24_0 : FieldAt Try.prog 24 0 0 := field_at (sz := 0) Try.underlying24 rfl (by kernel_rfl) rfl
theorem fa24_1 : FieldAt Try.prog 24 1 1 := field_at (sz := 0) Try.underlying24 rfl (by kernel_rfl) rfl
theorem fa24_2 : FieldAt Try.prog 24 2 2 := field_at (sz := 0) Try.underlying24 rfl (by kernel_rfl) rfl
theorem fa24_3 : FieldAt Try.prog 24 3 3 := field_at (sz := 0) Try.underlying24 rfl (by kernel_rfl) rfl
theorem mixed : Try.prog.follows .mixedOrders = true := by kernel_rfl
theorem one22 : One Try.prog 22 := one_of Try.underlying22 rfl (by kernel_rfl)
theorem one3 : One Try.prog 3 := one_of Try.underlying3 rfl (by kernel_rfl)
theorem one9 : One Try.prog 9 := one_of Try.underlying9 rfl (by kernel_rfl)
theorem sz24 : ∀ W, (sizeOf 24).run Try.prog W = .ok 4 W := size_of (by kernel_rfl)

theorem ndp_eq {a b : NdP} (h1 : a.kind = b.kind) (h2 : a.name = b.name) (h3 : a.tok = b.tok) : a = b := by
  cases a
  cases b
  cases h1
  cases h2
  cases h3
  rfl
theorem nd_ext {t u : Nd} (hx : t.x = u.x) (hl : t.kids.length = u.kids.length) (h : ∀ j, j < t.kids.length → t.kids.getD j nd0 = u.kids.getD j nd0) : t = u := by
  have hk : t.kids = u.kids := List.ext_getElem hl fun j h1 h2 => by
    have := h j h1
    rwa [List.getD_eq_getElem?_getD, List.getD_eq_getElem?_getD, List.getElem?_eq_getElem h1, List.getElem?_eq_getElem h2] at this
  cases t
  cases u
  cases hx
  cases hk
  rfl

def rsameOk (t : Nd) : Prop := ∀ (u : Nd) (w : World) (A B : Option Addr) (k k2 : Nat) (ht : Rd (kTr fNd) w A t.kids) (hu : Rd (kTr fNd) w B u.kids) (hf : t.All few), Calls Try.prog 14 #[.agg #[.int .i64 t.x.kind, .string t.x.name, .int .i64 t.x.tok, .slice A t.kids.length k], .agg #[.int .i64 u.x.kind, .string u.x.name, .int .i64 u.x.tok, .slice B u.kids.length k2]] w fun e w' => ∃ v, e = .returned v ∧ v = .bool (dec (t = u)) ∧ Holds w [] w'

set_option maxHeartbeats 3200000 in
set_option maxRecDepth 100000 in
theorem rsame_step {t u : Nd} {w : World} {A B : Option Addr} {k k2 : Nat} (ht : Rd (kTr fNd) w A t.kids) (hu : Rd (kTr fNd) w B u.kids) (hf : t.All few) (ih : ∀ t' ∈ t.kids, rsameOk t') : Calls Try.prog 14 #[.agg #[.int .i64 t.x.kind, .string t.x.name, .int .i64 t.x.tok, .slice A t.kids.length k], .agg #[.int .i64 u.x.kind, .string u.x.name, .int .i64 u.x.tok, .slice B u.kids.length k2]] w fun e w' => ∃ v, e = .returned v ∧ v = .bool (dec (t = u)) ∧ Holds w [] w' := by
  obtain ⟨hkk, hks⟩ := (Tr.All_eq t).1 hf
  unfold few at hkk
  refine calls_of Try.func14 rfl Try.ntmps14 rfl ?_
  have H := Holds.start w
  refine wcR ?_
  refine wl_box (cs := [_, _, _, _]) H rfl rfl rfl ?_
  intro b2 w1 hb2 H2
  refine wl_box (cs := [_, _, _, _]) H2 rfl rfl rfl ?_
  intro b3 w3 hb3 H4
  refine wA ?_
  refine wl_nil ?_
  refine wc_seq ?_
  refine wc_cut (σ := Bool) (fun q => [(2, .pointer (some ⟨b2, 0, none⟩)), (3, .pointer (some ⟨b3, 0, none⟩)), (33, .bool q)]) (fun q W => q = dec (¬ (t.x = u.x ∧ t.kids.length = u.kids.length)) ∧ Holds w [Blk b3 24 [.int .i64 u.x.kind, .string u.x.name, .int .i64 u.x.tok, .slice B u.kids.length k2], Blk b2 24 [.int .i64 t.x.kind, .string t.x.name, .int .i64 t.x.tok, .slice A t.kids.length k]] W) ?_ ?_
  ·refine wc_region ?_
   refine wV (v_fb (o2 := 0) fa24_0 rfl rfl) ?_
   refine wV (v_load one3 rfl (H4.at (by repeat constructor) rfl)) ?_
   refine wV (v_fb (o2 := 0) fa24_0 rfl rfl) ?_
   refine wV (v_load one3 rfl (H4.at (by repeat constructor) rfl)) ?_
   refine wV (v_neq rfl rfl) ?_
   refine wM ?_
   refine wl_guard rfl rfl rfl (fun g11 => ?_) (fun g11 => ?_)
   rotate_left
   ·have g11p := of_nd_t g11
    refine wF g11 ?_
    refine wF g11 ?_
    refine wF g11 ?_
    refine wF g11 ?_
    refine wV (v_pick_t rfl g11 rfl) ?_
    refine wM ?_
    refine wF rfl ?_
    refine wF rfl ?_
    refine wF rfl ?_
    refine wF rfl ?_
    refine wF rfl ?_
    refine wV (v_pick_t rfl rfl rfl) ?_
    refine wM ?_
    refine wF rfl ?_
    refine wF rfl ?_
    refine wF rfl ?_
    refine wF rfl ?_
    refine wF rfl ?_
    refine wF rfl ?_
    refine wF rfl ?_
    refine wV (v_pick_t rfl rfl rfl) ?_
    refine wl_nil ?_
    first
      | exact ⟨_, (sc rfl (sc rfl (sc rfl (sn _)))), ⟨dec_eq ⟨fun hd hh => (by have h_ := of_nd_t hd; have h2_ := hh.2; omega), fun hh => (by
          cases h_ : decide ((t.kids.length : Int) = u.kids.length)
          · rfl
          · exact absurd ⟨ndp_eq g11p g18p g25p, by have h2_ := oT h_; omega⟩ hh)⟩, H4⟩⟩
      | exact ⟨_, (sc rfl (sc rfl (sc rfl (sn _)))), ⟨(dec_t fun hh => g11p (congrArg NdP.kind hh.1)).symm, H4⟩⟩
      | exact ⟨_, (sc rfl (sc rfl (sc rfl (sn _)))), ⟨(dec_t fun hh => g18p (congrArg NdP.name hh.1)).symm, H4⟩⟩
      | exact ⟨_, (sc rfl (sc rfl (sc rfl (sn _)))), ⟨(dec_t fun hh => g25p (congrArg NdP.tok hh.1)).symm, H4⟩⟩
   have g11p := of_nd_f g11
   refine wV (v_fb (o2 := 1) fa24_1 rfl rfl) ?_
   refine wO g11 ?_
   refine wV (v_load one9 rfl (H4.at (by repeat constructor) rfl)) ?_
   refine wO g11 ?_
   refine wV (v_fb (o2 := 1) fa24_1 rfl rfl) ?_
   refine wO g11 ?_
   refine wV (v_load one9 rfl (H4.at (by repeat constructor) rfl)) ?_
   refine wO g11 ?_
   refine wV (v_neqs rfl rfl) ?_
   refine wV (v_pick_f rfl g11 rfl) ?_
   refine wM ?_
   refine wl_guard rfl rfl rfl (fun g18 => ?_) (fun g18 => ?_)
   rotate_left
   ·have g18p := of_nd_t g18
    refine wF g18 ?_
    refine wF g18 ?_
    refine wF g18 ?_
    refine wF g18 ?_
    refine wV (v_pick_t rfl g18 rfl) ?_
    refine wM ?_
    refine wF rfl ?_
    refine wF rfl ?_
    refine wF rfl ?_
    refine wF rfl ?_
    refine wF rfl ?_
    refine wF rfl ?_
    refine wF rfl ?_
    refine wV (v_pick_t rfl rfl rfl) ?_
    refine wl_nil ?_
    first
      | exact ⟨_, (sc rfl (sc rfl (sc rfl (sn _)))), ⟨dec_eq ⟨fun hd hh => (by have h_ := of_nd_t hd; have h2_ := hh.2; omega), fun hh => (by
          cases h_ : decide ((t.kids.length : Int) = u.kids.length)
          · rfl
          · exact absurd ⟨ndp_eq g11p g18p g25p, by have h2_ := oT h_; omega⟩ hh)⟩, H4⟩⟩
      | exact ⟨_, (sc rfl (sc rfl (sc rfl (sn _)))), ⟨(dec_t fun hh => g11p (congrArg NdP.kind hh.1)).symm, H4⟩⟩
      | exact ⟨_, (sc rfl (sc rfl (sc rfl (sn _)))), ⟨(dec_t fun hh => g18p (congrArg NdP.name hh.1)).symm, H4⟩⟩
      | exact ⟨_, (sc rfl (sc rfl (sc rfl (sn _)))), ⟨(dec_t fun hh => g25p (congrArg NdP.tok hh.1)).symm, H4⟩⟩
   have g18p := of_nd_f g18
   refine wV (v_fb (o2 := 2) fa24_2 rfl rfl) ?_
   refine wO g18 ?_
   refine wV (v_load one3 rfl (H4.at (by repeat constructor) rfl)) ?_
   refine wO g18 ?_
   refine wV (v_fb (o2 := 2) fa24_2 rfl rfl) ?_
   refine wO g18 ?_
   refine wV (v_load one3 rfl (H4.at (by repeat constructor) rfl)) ?_
   refine wO g18 ?_
   refine wV (v_neq rfl rfl) ?_
   refine wV (v_pick_f rfl g18 rfl) ?_
   refine wM ?_
   refine wl_guard rfl rfl rfl (fun g25 => ?_) (fun g25 => ?_)
   rotate_left
   ·have g25p := of_nd_t g25
    refine wF g25 ?_
    refine wF g25 ?_
    refine wF g25 ?_
    refine wF g25 ?_
    refine wF g25 ?_
    refine wF g25 ?_
    refine wV (v_pick_t rfl g25 rfl) ?_
    refine wl_nil ?_
    first
      | exact ⟨_, (sc rfl (sc rfl (sc rfl (sn _)))), ⟨dec_eq ⟨fun hd hh => (by have h_ := of_nd_t hd; have h2_ := hh.2; omega), fun hh => (by
          cases h_ : decide ((t.kids.length : Int) = u.kids.length)
          · rfl
          · exact absurd ⟨ndp_eq g11p g18p g25p, by have h2_ := oT h_; omega⟩ hh)⟩, H4⟩⟩
      | exact ⟨_, (sc rfl (sc rfl (sc rfl (sn _)))), ⟨(dec_t fun hh => g11p (congrArg NdP.kind hh.1)).symm, H4⟩⟩
      | exact ⟨_, (sc rfl (sc rfl (sc rfl (sn _)))), ⟨(dec_t fun hh => g18p (congrArg NdP.name hh.1)).symm, H4⟩⟩
      | exact ⟨_, (sc rfl (sc rfl (sc rfl (sn _)))), ⟨(dec_t fun hh => g25p (congrArg NdP.tok hh.1)).symm, H4⟩⟩
   have g25p := of_nd_f g25
   refine wV (v_fb (o2 := 3) fa24_3 rfl rfl) ?_
   refine wO g25 ?_
   refine wV (v_load one22 rfl (H4.at (by repeat constructor) rfl)) ?_
   refine wO g25 ?_
   refine wV (v_len Try.underlying22 rfl) ?_
   refine wO g25 ?_
   refine wV (v_fb (o2 := 3) fa24_3 rfl rfl) ?_
   refine wO g25 ?_
   refine wV (v_load one22 rfl (H4.at (by repeat constructor) rfl)) ?_
   refine wO g25 ?_
   refine wV (v_len Try.underlying22 rfl) ?_
   refine wO g25 ?_
   refine wV (v_neq rfl rfl) ?_
   refine wV (v_pick_f rfl g25 rfl) ?_
   refine wl_nil ?_
   first
     | exact ⟨_, (sc rfl (sc rfl (sc rfl (sn _)))), ⟨dec_eq ⟨fun hd hh => (by have h_ := of_nd_t hd; have h2_ := hh.2; omega), fun hh => (by
         cases h_ : decide ((t.kids.length : Int) = u.kids.length)
         · rfl
         · exact absurd ⟨ndp_eq g11p g18p g25p, by have h2_ := oT h_; omega⟩ hh)⟩, H4⟩⟩
     | exact ⟨_, (sc rfl (sc rfl (sc rfl (sn _)))), ⟨(dec_t fun hh => g11p (congrArg NdP.kind hh.1)).symm, H4⟩⟩
     | exact ⟨_, (sc rfl (sc rfl (sc rfl (sn _)))), ⟨(dec_t fun hh => g18p (congrArg NdP.name hh.1)).symm, H4⟩⟩
     | exact ⟨_, (sc rfl (sc rfl (sc rfl (sn _)))), ⟨(dec_t fun hh => g25p (congrArg NdP.tok hh.1)).symm, H4⟩⟩
  rintro q Wm ⟨hq, H⟩
  refine wc_cond rfl (fun c0 => ?_) (fun c0 => ?_)
  ·refine wcR ?_
   refine wA ?_
   refine wl_nil ?_
   refine wc_ret ?_
   first
     | (have q_ := c2
        exact ⟨_, res1 rfl rfl, congrArg Value.bool (dec_f fun hh => of_ndec (of_n_t c2) (by rw [hh])).symm, H.pm (by repeat (first | exact Pm.nil _ | constructor))⟩)
     | (have q_ := c1p
        exact ⟨_, res1 rfl rfl, congrArg Value.bool (dec_t (nd_ext hx hlen fun j hj => ha j (by omega))).symm, H.pm (by repeat (first | exact Pm.nil _ | constructor))⟩)
     | exact ⟨_, res1 rfl rfl, congrArg Value.bool (dec_f fun hh => of_dec (hq.symm.trans c0) (by rw [hh]; exact ⟨rfl, rfl⟩)).symm, H.pm (by repeat (first | exact Pm.nil _ | constructor))⟩
  obtain ⟨hx, hlen⟩ := Classical.byContradiction (of_ndec (hq.symm.trans c0))
  refine wc_skip ?_
  refine wc_seq ?_
  refine wcR ?_
  refine wA ?_
  refine wl_nil ?_
  refine wc_block ?_
  refine wc_loop (σ := Nat) (fun s => [(2, .pointer (some ⟨b2, 0, none⟩)), (3, .pointer (some ⟨b3, 0, none⟩)), (5, .int .i64 s)]) (fun s W => (s ≤ t.kids.length ∧ ∀ j, j < s → t.kids.getD j nd0 = u.kids.getD j nd0) ∧ Holds w [Blk b3 24 [.int .i64 u.x.kind, .string u.x.name, .int .i64 u.x.tok, .slice B u.kids.length k2], Blk b2 24 [.int .i64 t.x.kind, .string t.x.name, .int .i64 t.x.tok, .slice A t.kids.length k]] W) (fun s => t.kids.length - s) 0 (sc rfl (sc rfl (sc rfl (sn _)))) ⟨⟨Nat.zero_le _, upto_zero⟩, H⟩ ?_
  rintro i W0 ⟨⟨hi, ha⟩, H⟩
  refine wc_seq ?_
  refine wcR ?_
  refine wM ?_
  refine wV (v_fb (o2 := 3) fa24_3 rfl rfl) ?_
  refine wV (v_load one22 rfl (H.at (by repeat constructor) rfl)) ?_
  refine wV (v_len Try.underlying22 rfl) ?_
  refine wV (v_lss rfl rfl) ?_
  refine wl_nil ?_
  refine wc_cond rfl (fun c1 => ?_) (fun c1 => ?_)
  rotate_left
  ·have c1p := oF c1
   refine wc_exit ?_
   refine wcR ?_
   refine wA ?_
   refine wl_nil ?_
   refine wc_ret ?_
   first
     | (have q_ := c2
        exact ⟨_, res1 rfl rfl, congrArg Value.bool (dec_f fun hh => of_ndec (of_n_t c2) (by rw [hh])).symm, H.pm (by repeat (first | exact Pm.nil _ | constructor))⟩)
     | (have q_ := c1p
        exact ⟨_, res1 rfl rfl, congrArg Value.bool (dec_t (nd_ext hx hlen fun j hj => ha j (by omega))).symm, H.pm (by repeat (first | exact Pm.nil _ | constructor))⟩)
     | exact ⟨_, res1 rfl rfl, congrArg Value.bool (dec_f fun hh => of_dec (hq.symm.trans c0) (by rw [hh]; exact ⟨rfl, rfl⟩)).symm, H.pm (by repeat (first | exact Pm.nil _ | constructor))⟩
  have c1p := oT c1
  have hin : i < t.kids.length := by omega
  refine wc_skip ?_
  refine wc_seq ?_
  refine wc_block ?_
  refine wc_seq ?_
  refine wc_tree [0, 1, 2, 3, 4, 5, 6, 7, 8, 9] (fun W => Holds w [Blk b3 24 [.int .i64 u.x.kind, .string u.x.name, .int .i64 u.x.tok, .slice B u.kids.length k2], Blk b2 24 [.int .i64 t.x.kind, .string t.x.name, .int .i64 t.x.tok, .slice A t.kids.length k]] W) mixed ?_
  have Hd := H.drew
  have HSd : Holds w [Blk b3 24 [.int .i64 u.x.kind, .string u.x.name, .int .i64 u.x.tok, .slice B u.kids.length k2], Blk b2 24 [.int .i64 t.x.kind, .string t.x.name, .int .i64 t.x.tok, .slice A t.kids.length k]] _ := Hd.pm (by repeat constructor)
  refine wjV (k := 0) rfl HSd (fun W HW => v_fb (o2 := 3) fa24_3 rfl rfl) ?_
  refine wjV (k := 1) rfl HSd (fun W HW => v_load one22 rfl (HW.at (by repeat constructor) rfl)) ?_
  refine wjV (k := 2) rfl HSd (fun W HW => v_move rfl) ?_
  refine wjV (k := 3) rfl HSd (fun W HW => v_idx Try.underlying22 sz24 ht.ad rfl rfl (by omega) (by omega)) ?_
  obtain ⟨B45_, k45_, hc45_, hl45_, hr45_⟩ := ht.atTr nd0 (i := i) (by omega)
  refine wjV (k := 4) rfl HSd (fun W HW => v_loadN (cs := [.int .i64 (t.kids.getD i nd0).x.kind, .string (t.kids.getD i nd0).x.name, .int .i64 (t.kids.getD i nd0).x.tok, .slice B45_ (t.kids.getD i nd0).kids.length k45_]) agg24 rfl rfl (fun q_ u_ hu_ => HW.cell (hc45_ q_ u_ hu_))) ?_
  refine wjV (k := 5) rfl HSd (fun W HW => v_fb (o2 := 3) fa24_3 rfl rfl) ?_
  refine wjV (k := 6) rfl HSd (fun W HW => v_load one22 rfl (HW.at (by repeat constructor) rfl)) ?_
  refine wjV (k := 7) rfl HSd (fun W HW => v_move rfl) ?_
  refine wjV (k := 8) rfl HSd (fun W HW => v_idx Try.underlying22 sz24 hu.ad rfl rfl (by omega) (by omega)) ?_
  obtain ⟨B50_, k50_, hc50_, hl50_, hr50_⟩ := hu.atTr nd0 (i := i) (by omega)
  refine wjV (k := 9) rfl HSd (fun W HW => v_loadN (cs := [.int .i64 (u.kids.getD i nd0).x.kind, .string (u.kids.getD i nd0).x.name, .int .i64 (u.kids.getD i nd0).x.tok, .slice B50_ (u.kids.getD i nd0).kids.length k50_]) agg24 rfl rfl (fun q_ u_ hu_ => HW.cell (hc50_ q_ u_ hu_))) ?_
  refine wj_t (k := 10) rfl (by kernel_rfl) ?_
  refine wl_call en14 rfl rfl (ih _ (getD_mem (z := nd0) hin) _ _ _ _ _ _ (hr45_.below Hd.old) (hr50_.below Hd.old) (Tr.Alls_at nd0 hin hks)) ?_
  rintro _ w5 ⟨rfl, Hc⟩
  have H6 := Hd.call0 Hc
  refine wl_nil (tn ⟨fun hlt => absurd hlt (by rw [show allH _ _ _ = true by kernel_rfl]; simp), ?_⟩)
  refine wj_t (k := 11) rfl (by kernel_rfl) ?_
  refine wV (v_not rfl) ?_
  refine wl_nil (tn ⟨fun hlt => absurd hlt (by rw [show allH _ _ _ = true by kernel_rfl]; simp), ?_⟩)
  refine wj_done (by kernel_rfl) ?_
  refine wc_cond rfl (fun c2 => ?_) (fun c2 => ?_)
  rotate_left
  ·have c2p := of_n_f c2
   refine wc_skip ?_
   refine wc_region ?_
   refine wM ?_
   refine wV (v_addi rfl rfl (by omega)) ?_
   refine wA ?_
   refine wl_nil ?_
   exact ⟨i + 1, (sc rfl (sc rfl (sc rfl (sn _)))), ⟨⟨by omega, upto_succ ha (of_dec (of_n_f c2))⟩, H6⟩, by omega⟩
  have c2p := of_n_t c2
  refine wcR ?_
  refine wA ?_
  refine wl_nil ?_
  refine wc_ret ?_
  first
    | (have q_ := c2
       exact ⟨_, res1 rfl rfl, congrArg Value.bool (dec_f fun hh => of_ndec (of_n_t c2) (by rw [hh])).symm, H6.pm (by repeat (first | exact Pm.nil _ | constructor))⟩)
    | (have q_ := c1p
       exact ⟨_, res1 rfl rfl, congrArg Value.bool (dec_t (nd_ext hx hlen fun j hj => ha j (by omega))).symm, H6.pm (by repeat (first | exact Pm.nil _ | constructor))⟩)
    | exact ⟨_, res1 rfl rfl, congrArg Value.bool (dec_f fun hh => of_dec (hq.symm.trans c0) (by rw [hh]; exact ⟨rfl, rfl⟩)).symm, H6.pm (by repeat (first | exact Pm.nil _ | constructor))⟩

theorem rsame_calls : ∀ t : Nd, rsameOk t := Tr.ind fun x kids ih => fun u w A B k k2 ht hu hf => rsame_step (t := .mk x kids) ht hu hf ih

def psameOk (t : Nd) : Prop := ∀ (u : Nd) (w : World) (A B : Option Addr) (k k2 : Nat) (ht : Rd (kTr fNd) w A t.kids) (hu : Rd (kTr fNd) w B u.kids) (hf : t.All few), Calls Try.prog 27 #[.agg #[.int .i64 t.x.kind, .string t.x.name, .int .i64 t.x.tok, .slice A t.kids.length k], .agg #[.int .i64 u.x.kind, .string u.x.name, .int .i64 u.x.tok, .slice B u.kids.length k2]] w fun e w' => ∃ v, e = .returned v ∧ v = .bool (dec (t = u)) ∧ Holds w [] w'

set_option maxHeartbeats 3200000 in
set_option maxRecDepth 100000 in
theorem psame_step {t u : Nd} {w : World} {A B : Option Addr} {k k2 : Nat} (ht : Rd (kTr fNd) w A t.kids) (hu : Rd (kTr fNd) w B u.kids) (hf : t.All few) (ih : ∀ t' ∈ t.kids, psameOk t') : Calls Try.prog 27 #[.agg #[.int .i64 t.x.kind, .string t.x.name, .int .i64 t.x.tok, .slice A t.kids.length k], .agg #[.int .i64 u.x.kind, .string u.x.name, .int .i64 u.x.tok, .slice B u.kids.length k2]] w fun e w' => ∃ v, e = .returned v ∧ v = .bool (dec (t = u)) ∧ Holds w [] w' := by
  obtain ⟨hkk, hks⟩ := (Tr.All_eq t).1 hf
  unfold few at hkk
  refine calls_of Try.func27 rfl Try.ntmps27 rfl ?_
  have H := Holds.start w
  refine wcR ?_
  refine wl_box (cs := [_, _, _, _]) H rfl rfl rfl ?_
  intro b2 w1 hb2 H2
  refine wl_box (cs := [_, _, _, _]) H2 rfl rfl rfl ?_
  intro b3 w3 hb3 H4
  refine wA ?_
  refine wl_nil ?_
  refine wc_seq ?_
  refine wc_cut (σ := Bool) (fun q => [(2, .pointer (some ⟨b2, 0, none⟩)), (3, .pointer (some ⟨b3, 0, none⟩)), (33, .bool q)]) (fun q W => q = dec (¬ (t.x = u.x ∧ t.kids.length = u.kids.length)) ∧ Holds w [Blk b3 24 [.int .i64 u.x.kind, .string u.x.name, .int .i64 u.x.tok, .slice B u.kids.length k2], Blk b2 24 [.int .i64 t.x.kind, .string t.x.name, .int .i64 t.x.tok, .slice A t.kids.length k]] W) ?_ ?_
  ·refine wc_region ?_
   refine wV (v_fb (o2 := 0) fa24_0 rfl rfl) ?_
   refine wV (v_load one3 rfl (H4.at (by repeat constructor) rfl)) ?_
   refine wV (v_fb (o2 := 0) fa24_0 rfl rfl) ?_
   refine wV (v_load one3 rfl (H4.at (by repeat constructor) rfl)) ?_
   refine wV (v_neq rfl rfl) ?_
   refine wM ?_
   refine wl_guard rfl rfl rfl (fun g11 => ?_) (fun g11 => ?_)
   rotate_left
   ·have g11p := of_nd_t g11
    refine wF g11 ?_
    refine wF g11 ?_
    refine wF g11 ?_
    refine wF g11 ?_
    refine wV (v_pick_t rfl g11 rfl) ?_
    refine wM ?_
    refine wF rfl ?_
    refine wF rfl ?_
    refine wF rfl ?_
    refine wF rfl ?_
    refine wF rfl ?_
    refine wV (v_pick_t rfl rfl rfl) ?_
    refine wM ?_
    refine wF rfl ?_
    refine wF rfl ?_
    refine wF rfl ?_
    refine wF rfl ?_
    refine wF rfl ?_
    refine wF rfl ?_
    refine wF rfl ?_
    refine wV (v_pick_t rfl rfl rfl) ?_
    refine wl_nil ?_
    first
      | exact ⟨_, (sc rfl (sc rfl (sc rfl (sn _)))), ⟨dec_eq ⟨fun hd hh => (by have h_ := of_nd_t hd; have h2_ := hh.2; omega), fun hh => (by
          cases h_ : decide ((t.kids.length : Int) = u.kids.length)
          · rfl
          · exact absurd ⟨ndp_eq g11p g18p g25p, by have h2_ := oT h_; omega⟩ hh)⟩, H4⟩⟩
      | exact ⟨_, (sc rfl (sc rfl (sc rfl (sn _)))), ⟨(dec_t fun hh => g11p (congrArg NdP.kind hh.1)).symm, H4⟩⟩
      | exact ⟨_, (sc rfl (sc rfl (sc rfl (sn _)))), ⟨(dec_t fun hh => g18p (congrArg NdP.name hh.1)).symm, H4⟩⟩
      | exact ⟨_, (sc rfl (sc rfl (sc rfl (sn _)))), ⟨(dec_t fun hh => g25p (congrArg NdP.tok hh.1)).symm, H4⟩⟩
   have g11p := of_nd_f g11
   refine wV (v_fb (o2 := 1) fa24_1 rfl rfl) ?_
   refine wO g11 ?_
   refine wV (v_load one9 rfl (H4.at (by repeat constructor) rfl)) ?_
   refine wO g11 ?_
   refine wV (v_fb (o2 := 1) fa24_1 rfl rfl) ?_
   refine wO g11 ?_
   refine wV (v_load one9 rfl (H4.at (by repeat constructor) rfl)) ?_
   refine wO g11 ?_
   refine wV (v_neqs rfl rfl) ?_
   refine wV (v_pick_f rfl g11 rfl) ?_
   refine wM ?_
   refine wl_guard rfl rfl rfl (fun g18 => ?_) (fun g18 => ?_)
   rotate_left
   ·have g18p := of_nd_t g18
    refine wF g18 ?_
    refine wF g18 ?_
    refine wF g18 ?_
    refine wF g18 ?_
    refine wV (v_pick_t rfl g18 rfl) ?_
    refine wM ?_
    refine wF rfl ?_
    refine wF rfl ?_
    refine wF rfl ?_
    refine wF rfl ?_
    refine wF rfl ?_
    refine wF rfl ?_
    refine wF rfl ?_
    refine wV (v_pick_t rfl rfl rfl) ?_
    refine wl_nil ?_
    first
      | exact ⟨_, (sc rfl (sc rfl (sc rfl (sn _)))), ⟨dec_eq ⟨fun hd hh => (by have h_ := of_nd_t hd; have h2_ := hh.2; omega), fun hh => (by
          cases h_ : decide ((t.kids.length : Int) = u.kids.length)
          · rfl
          · exact absurd ⟨ndp_eq g11p g18p g25p, by have h2_ := oT h_; omega⟩ hh)⟩, H4⟩⟩
      | exact ⟨_, (sc rfl (sc rfl (sc rfl (sn _)))), ⟨(dec_t fun hh => g11p (congrArg NdP.kind hh.1)).symm, H4⟩⟩
      | exact ⟨_, (sc rfl (sc rfl (sc rfl (sn _)))), ⟨(dec_t fun hh => g18p (congrArg NdP.name hh.1)).symm, H4⟩⟩
      | exact ⟨_, (sc rfl (sc rfl (sc rfl (sn _)))), ⟨(dec_t fun hh => g25p (congrArg NdP.tok hh.1)).symm, H4⟩⟩
   have g18p := of_nd_f g18
   refine wV (v_fb (o2 := 2) fa24_2 rfl rfl) ?_
   refine wO g18 ?_
   refine wV (v_load one3 rfl (H4.at (by repeat constructor) rfl)) ?_
   refine wO g18 ?_
   refine wV (v_fb (o2 := 2) fa24_2 rfl rfl) ?_
   refine wO g18 ?_
   refine wV (v_load one3 rfl (H4.at (by repeat constructor) rfl)) ?_
   refine wO g18 ?_
   refine wV (v_neq rfl rfl) ?_
   refine wV (v_pick_f rfl g18 rfl) ?_
   refine wM ?_
   refine wl_guard rfl rfl rfl (fun g25 => ?_) (fun g25 => ?_)
   rotate_left
   ·have g25p := of_nd_t g25
    refine wF g25 ?_
    refine wF g25 ?_
    refine wF g25 ?_
    refine wF g25 ?_
    refine wF g25 ?_
    refine wF g25 ?_
    refine wV (v_pick_t rfl g25 rfl) ?_
    refine wl_nil ?_
    first
      | exact ⟨_, (sc rfl (sc rfl (sc rfl (sn _)))), ⟨dec_eq ⟨fun hd hh => (by have h_ := of_nd_t hd; have h2_ := hh.2; omega), fun hh => (by
          cases h_ : decide ((t.kids.length : Int) = u.kids.length)
          · rfl
          · exact absurd ⟨ndp_eq g11p g18p g25p, by have h2_ := oT h_; omega⟩ hh)⟩, H4⟩⟩
      | exact ⟨_, (sc rfl (sc rfl (sc rfl (sn _)))), ⟨(dec_t fun hh => g11p (congrArg NdP.kind hh.1)).symm, H4⟩⟩
      | exact ⟨_, (sc rfl (sc rfl (sc rfl (sn _)))), ⟨(dec_t fun hh => g18p (congrArg NdP.name hh.1)).symm, H4⟩⟩
      | exact ⟨_, (sc rfl (sc rfl (sc rfl (sn _)))), ⟨(dec_t fun hh => g25p (congrArg NdP.tok hh.1)).symm, H4⟩⟩
   have g25p := of_nd_f g25
   refine wV (v_fb (o2 := 3) fa24_3 rfl rfl) ?_
   refine wO g25 ?_
   refine wV (v_load one22 rfl (H4.at (by repeat constructor) rfl)) ?_
   refine wO g25 ?_
   refine wV (v_len Try.underlying22 rfl) ?_
   refine wO g25 ?_
   refine wV (v_fb (o2 := 3) fa24_3 rfl rfl) ?_
   refine wO g25 ?_
   refine wV (v_load one22 rfl (H4.at (by repeat constructor) rfl)) ?_
   refine wO g25 ?_
   refine wV (v_len Try.underlying22 rfl) ?_
   refine wO g25 ?_
   refine wV (v_neq rfl rfl) ?_
   refine wV (v_pick_f rfl g25 rfl) ?_
   refine wl_nil ?_
   first
     | exact ⟨_, (sc rfl (sc rfl (sc rfl (sn _)))), ⟨dec_eq ⟨fun hd hh => (by have h_ := of_nd_t hd; have h2_ := hh.2; omega), fun hh => (by
         cases h_ : decide ((t.kids.length : Int) = u.kids.length)
         · rfl
         · exact absurd ⟨ndp_eq g11p g18p g25p, by have h2_ := oT h_; omega⟩ hh)⟩, H4⟩⟩
     | exact ⟨_, (sc rfl (sc rfl (sc rfl (sn _)))), ⟨(dec_t fun hh => g11p (congrArg NdP.kind hh.1)).symm, H4⟩⟩
     | exact ⟨_, (sc rfl (sc rfl (sc rfl (sn _)))), ⟨(dec_t fun hh => g18p (congrArg NdP.name hh.1)).symm, H4⟩⟩
     | exact ⟨_, (sc rfl (sc rfl (sc rfl (sn _)))), ⟨(dec_t fun hh => g25p (congrArg NdP.tok hh.1)).symm, H4⟩⟩
  rintro q Wm ⟨hq, H⟩
  refine wc_cond rfl (fun c0 => ?_) (fun c0 => ?_)
  ·refine wcR ?_
   refine wA ?_
   refine wl_nil ?_
   refine wc_ret ?_
   first
     | (have q_ := c2
        exact ⟨_, res1 rfl rfl, congrArg Value.bool (dec_f fun hh => of_ndec (of_n_t c2) (by rw [hh])).symm, H.pm (by repeat (first | exact Pm.nil _ | constructor))⟩)
     | (have q_ := c1p
        exact ⟨_, res1 rfl rfl, congrArg Value.bool (dec_t (nd_ext hx hlen fun j hj => ha j (by omega))).symm, H.pm (by repeat (first | exact Pm.nil _ | constructor))⟩)
     | exact ⟨_, res1 rfl rfl, congrArg Value.bool (dec_f fun hh => of_dec (hq.symm.trans c0) (by rw [hh]; exact ⟨rfl, rfl⟩)).symm, H.pm (by repeat (first | exact Pm.nil _ | constructor))⟩
  obtain ⟨hx, hlen⟩ := Classical.byContradiction (of_ndec (hq.symm.trans c0))
  refine wc_skip ?_
  refine wc_seq ?_
  refine wcR ?_
  refine wV (v_fb (o2 := 3) fa24_3 rfl rfl) ?_
  refine wV (v_load one22 rfl (H.at (by repeat constructor) rfl)) ?_
  refine wV (v_len Try.underlying22 rfl) ?_
  refine wM ?_
  refine wl_nil ?_
  refine wc_block ?_
  refine wc_loop (σ := Nat) (fun s => [(2, .pointer (some ⟨b2, 0, none⟩)), (3, .pointer (some ⟨b3, 0, none⟩)), (36, .int .i64 t.kids.length), (37, .int .i64 s)]) (fun s W => (s ≤ t.kids.length ∧ ∀ j, j < s → t.kids.getD j nd0 = u.kids.getD j nd0) ∧ Holds w [Blk b3 24 [.int .i64 u.x.kind, .string u.x.name, .int .i64 u.x.tok, .slice B u.kids.length k2], Blk b2 24 [.int .i64 t.x.kind, .string t.x.name, .int .i64 t.x.tok, .slice A t.kids.length k]] W) (fun s => t.kids.length - s) 0 (sc rfl (sc rfl (sc rfl (sc rfl (sn _))))) ⟨⟨Nat.zero_le _, upto_zero⟩, H⟩ ?_
  rintro i W0 ⟨⟨hi, ha⟩, H⟩
  refine wcR ?_
  refine wV (v_lss rfl rfl) ?_
  refine wl_nil ?_
  refine wc_seq ?_
  refine wc_cond rfl (fun c1 => ?_) (fun c1 => ?_)
  rotate_left
  ·have c1p := oF c1
   refine wc_exit ?_
   refine wcR ?_
   refine wA ?_
   refine wl_nil ?_
   refine wc_ret ?_
   first
     | (have q_ := c2
        exact ⟨_, res1 rfl rfl, congrArg Value.bool (dec_f fun hh => of_ndec (of_n_t c2) (by rw [hh])).symm, H.pm (by repeat (first | exact Pm.nil _ | constructor))⟩)
     | (have q_ := c1p
        exact ⟨_, res1 rfl rfl, congrArg Value.bool (dec_t (nd_ext hx hlen fun j hj => ha j (by omega))).symm, H.pm (by repeat (first | exact Pm.nil _ | constructor))⟩)
     | exact ⟨_, res1 rfl rfl, congrArg Value.bool (dec_f fun hh => of_dec (hq.symm.trans c0) (by rw [hh]; exact ⟨rfl, rfl⟩)).symm, H.pm (by repeat (first | exact Pm.nil _ | constructor))⟩
  have c1p := oT c1
  have hin : i < t.kids.length := by omega
  refine wc_skip ?_
  refine wc_seq ?_
  refine wc_block ?_
  refine wcR ?_
  refine wM ?_
  refine wA ?_
  refine wl_nil ?_
  refine wc_seq ?_
  refine wc_tree [0, 1, 2, 3, 4, 5, 6, 7, 8, 9] (fun W => Holds w [Blk b3 24 [.int .i64 u.x.kind, .string u.x.name, .int .i64 u.x.tok, .slice B u.kids.length k2], Blk b2 24 [.int .i64 t.x.kind, .string t.x.name, .int .i64 t.x.tok, .slice A t.kids.length k]] W) mixed ?_
  have Hd := H.drew
  have HSd : Holds w [Blk b3 24 [.int .i64 u.x.kind, .string u.x.name, .int .i64 u.x.tok, .slice B u.kids.length k2], Blk b2 24 [.int .i64 t.x.kind, .string t.x.name, .int .i64 t.x.tok, .slice A t.kids.length k]] _ := Hd.pm (by repeat constructor)
  refine wjV (k := 0) rfl HSd (fun W HW => v_fb (o2 := 3) fa24_3 rfl rfl) ?_
  refine wjV (k := 1) rfl HSd (fun W HW => v_load one22 rfl (HW.at (by repeat constructor) rfl)) ?_
  refine wjV (k := 2) rfl HSd (fun W HW => v_move rfl) ?_
  refine wjV (k := 3) rfl HSd (fun W HW => v_idx Try.underlying22 sz24 ht.ad rfl rfl (by omega) (by omega)) ?_
  obtain ⟨B44_, k44_, hc44_, hl44_, hr44_⟩ := ht.atTr nd0 (i := i) (by omega)
  refine wjV (k := 4) rfl HSd (fun W HW => v_loadN (cs := [.int .i64 (t.kids.getD i nd0).x.kind, .string (t.kids.getD i nd0).x.name, .int .i64 (t.kids.getD i nd0).x.tok, .slice B44_ (t.kids.getD i nd0).kids.length k44_]) agg24 rfl rfl (fun q_ u_ hu_ => HW.cell (hc44_ q_ u_ hu_))) ?_
  refine wjV (k := 5) rfl HSd (fun W HW => v_fb (o2 := 3) fa24_3 rfl rfl) ?_
  refine wjV (k := 6) rfl HSd (fun W HW => v_load one22 rfl (HW.at (by repeat constructor) rfl)) ?_
  refine wjV (k := 7) rfl HSd (fun W HW => v_move rfl) ?_
  refine wjV (k := 8) rfl HSd (fun W HW => v_idx Try.underlying22 sz24 hu.ad rfl rfl (by omega) (by omega)) ?_
  obtain ⟨B49_, k49_, hc49_, hl49_, hr49_⟩ := hu.atTr nd0 (i := i) (by omega)
  refine wjV (k := 9) rfl HSd (fun W HW => v_loadN (cs := [.int .i64 (u.kids.getD i nd0).x.kind, .string (u.kids.getD i nd0).x.name, .int .i64 (u.kids.getD i nd0).x.tok, .slice B49_ (u.kids.getD i nd0).kids.length k49_]) agg24 rfl rfl (fun q_ u_ hu_ => HW.cell (hc49_ q_ u_ hu_))) ?_
  refine wj_t (k := 10) rfl (by kernel_rfl) ?_
  refine wl_call en27 rfl rfl (ih _ (getD_mem (z := nd0) hin) _ _ _ _ _ _ (hr44_.below Hd.old) (hr49_.below Hd.old) (Tr.Alls_at nd0 hin hks)) ?_
  rintro _ w5 ⟨rfl, Hc⟩
  have H6 := Hd.call0 Hc
  refine wl_nil (tn ⟨fun hlt => absurd hlt (by rw [show allH _ _ _ = true by kernel_rfl]; simp), ?_⟩)
  refine wj_t (k := 11) rfl (by kernel_rfl) ?_
  refine wV (v_not rfl) ?_
  refine wl_nil (tn ⟨fun hlt => absurd hlt (by rw [show allH _ _ _ = true by kernel_rfl]; simp), ?_⟩)
  refine wj_done (by kernel_rfl) ?_
  refine wc_cond rfl (fun c2 => ?_) (fun c2 => ?_)
  rotate_left
  ·have c2p := of_n_f c2
   refine wc_skip ?_
   refine wc_region ?_
   refine wV (v_addi rfl rfl (by omega)) ?_
   refine wM ?_
   refine wl_nil ?_
   exact ⟨i + 1, (sc rfl (sc rfl (sc rfl (sc rfl (sn _))))), ⟨⟨by omega, upto_succ ha (of_dec (of_n_f c2))⟩, H6⟩, by omega⟩
  have c2p := of_n_t c2
  refine wcR ?_
  refine wA ?_
  refine wl_nil ?_
  refine wc_ret ?_
  first
    | (have q_ := c2
       exact ⟨_, res1 rfl rfl, congrArg Value.bool (dec_f fun hh => of_ndec (of_n_t c2) (by rw [hh])).symm, H6.pm (by repeat (first | exact Pm.nil _ | constructor))⟩)
    | (have q_ := c1p
       exact ⟨_, res1 rfl rfl, congrArg Value.bool (dec_t (nd_ext hx hlen fun j hj => ha j (by omega))).symm, H6.pm (by repeat (first | exact Pm.nil _ | constructor))⟩)
    | exact ⟨_, res1 rfl rfl, congrArg Value.bool (dec_f fun hh => of_dec (hq.symm.trans c0) (by rw [hh]; exact ⟨rfl, rfl⟩)).symm, H6.pm (by repeat (first | exact Pm.nil _ | constructor))⟩

theorem psame_calls : ∀ t : Nd, psameOk t := Tr.ind fun x kids ih => fun u w A B k k2 ht hu hf => psame_step (t := .mk x kids) ht hu hf ih
end Go.Proofs.Ytgdemplcpcacaaa.SameN

/-! What came in, as it reads. -/
namespace Go.Proofs.YtgdemplcpcacaaaFx
open Go Go.RowKit Go.ChangeShapes Go.WideShapes Go.ChangeAt Go.Deep
open Go.Proofs.Ytgdemplcpcacaaa (Rows.uptoBulk Rows.uptoBulkAll Rows.uptoSmall)
theorem bulk_one {H : Type} (d : DataW H) : 1 ≤ Rows.uptoBulk d := by
  cases d with
  | lit l => cases l <;> simp [Rows.uptoBulk]
  | nil => simp [Rows.uptoBulk]
  | ptr d => simp [Rows.uptoBulk]
  | slice elems spare => simp [Rows.uptoBulk]
  | agg parts => simp [Rows.uptoBulk]
  | iface t d => simp [Rows.uptoBulk]
  | map entries => simp [Rows.uptoBulk]
  | held h => simp [Rows.uptoBulk]
theorem bulk_part {H : Type} {d : DataW H} {l : List (DataW H)} (h : d ∈ l) : Rows.uptoBulk d ≤ Rows.uptoBulkAll l := by
  induction l with
  | nil => cases h
  | cons x r ih =>
    simp only [Rows.uptoBulkAll]
    cases List.mem_cons.1 h with
    | inl e => subst e; omega
    | inr e => have := ih e; omega
theorem bulk_len {H : Type} (l : List (DataW H)) : l.length ≤ Rows.uptoBulkAll l := by
  induction l with
  | nil => simp [Rows.uptoBulkAll]
  | cons x r ih => have := bulk_one x; simp only [Rows.uptoBulkAll, List.length_cons]; omega
/-- A kind of elements that a type reads as; B: what is so of an element of such a bulk. -/
structure Rds (P : Program) (t : TypeId) {α : Type} (K : Kn α) (B : α → Nat → Prop) : Prop where
  sz : P.cellsOf t = K.sz
  rd : ∀ {H : Type} {enc : TypeId × Value → H} {w : World} {base : Nat} {spare : Nat → Bool} {held : Bool} {fuel : Nat} {cs : List Value} {x : DataW H × List MemPlace}, DataW.trod enc P w base spare held fuel t cs = some x → ∃ a, K.K w a cs ∧ B a (Rows.uptoBulk x.1)
section
variable {P : Program} {t e : TypeId} {k : IntKind}
theorem rds_int (ht : P.underlying t = some (.int k)) (hc : P.cellsOf t = 1) : Rds P t (kInt k) (fun a n => (Lit.int k a).wf = true ∧ 1 ≤ n) := ⟨hc, fun h => by
  obtain ⟨n, rfl, rfl, hw⟩ := DataW.trod_int ht h
  exact ⟨n, rfl, hw, bulk_one _⟩⟩
theorem rds_str (ht : P.underlying t = some .string) (hc : P.cellsOf t = 1) : Rds P t kStr (fun a n => a.size + 1 ≤ n) := ⟨hc, fun h => by
  obtain ⟨s, rfl, rfl, hw⟩ := DataW.trod_string ht h
  refine ⟨s, rfl, ?_⟩
  simp only [Rows.uptoBulk, Array.length_toList]
  exact Nat.le_refl _⟩
theorem i64_wf {a : Int} (h : (Lit.int .i64 a).wf = true) : I64 a := by
  have e1 : (if IntKind.i64.signed = true then -(2 ^ (IntKind.i64.bits - 1) : Int) else 0) = -9223372036854775808 := rfl
  have h1 : -9223372036854775808 ≤ a ∧ a ≤ 9223372036854775807 := by simpa [Lit.wf, IntKind.min, e1] using h
  exact h1
theorem two_len {cs : List Value} (h : cs.length = 2) : ∃ a b, cs = [a, b] := by
  match cs, h with
  | [a, b], _ => exact ⟨a, b, rfl⟩
theorem rds_mv {f0 f1 : Field} (ht : P.underlying t = some (.struct #[f0, f1])) (he : P.underlying e = some (.int .i64)) (hc : P.cellsOf t = 2) (hce : P.cellsOf e = 1) (h0 : (f0.type, f0.offset) = (e, 0)) (h1 : (f1.type, f1.offset) = (e, 1)) : Rds P t fMv.kn (fun a n => (I64 a.d ∧ I64 a.n) ∧ 1 ≤ n) := ⟨hc, fun {H enc w base spare held fuel cs x} h => by
  simp only [Prod.mk.injEq] at h0 h1
  obtain ⟨y0, y1, n, rfl, hl, e0, e1⟩ := trod_struct2 ht h
  rw [h0.1, h0.2, hce] at e0
  rw [h1.1, h1.2, hce] at e1
  obtain ⟨a, ha, _, wa⟩ := DataW.trod_int he e0
  obtain ⟨b, hb, _, wb⟩ := DataW.trod_int he e1
  rw [hc] at hl
  obtain ⟨c0, c1, rfl⟩ := two_len hl
  · simp at ha hb
    subst ha hb
    exact ⟨⟨a, b⟩, rfl, ⟨i64_wf wa, i64_wf wb⟩, bulk_one _⟩⟩
theorem rds_sl {α : Type} {K : Kn α} {B : α → Nat → Prop} (ht : P.underlying t = some (.slice e)) (hc : P.cellsOf t = 1) (he : Rds P e K B) : Rds P t K.sl (fun xs n => xs.length + 1 ≤ n ∧ ∀ x ∈ xs, ∃ m, m ≤ n ∧ B x m) := ⟨hc, fun {H enc w base spare held fuel cs x} h => by
  rcases open_slice ht h with ⟨rfl, rfl⟩ | ⟨a, len, cap, m, n, D, Pl, rfl, _, hl, hm, hmm, rfl, hx⟩
  · exact ⟨[], ⟨none, 0, rfl, Nat.le_refl _, Rd.nil _ _ _⟩, by simp [Rows.uptoBulk], fun x hx => by simp at hx⟩
  · have hlm : len ≤ m := by rw [hmm]; split <;> omega
    have hex : ∀ i, i < len → ∃ a' : α, (∃ cs', w.cells? base (a.add (i * P.cellsOf e)) (P.cellsOf e) = some cs' ∧ K.K w a' cs') ∧ B a' (Rows.uptoBulk (D i)) := fun i hi => by
      obtain ⟨cs', h1, h2⟩ := hx i (by omega)
      obtain ⟨a', h3, h4⟩ := he.rd h2
      exact ⟨a', ⟨cs', h1, h3⟩, h4⟩
    refine ⟨List.ofFn fun i : Fin len => Classical.choose (hex i.1 i.2), ⟨some a, cap, by rw [List.length_ofFn], by rw [List.length_ofFn]; exact hl, fun _ => rfl, fun j y hy => ?_⟩, ?_, fun y hy => ?_⟩
    · rw [List.getElem?_ofFn] at hy
      split at hy
      · rename_i hj
        simp only [Option.some.injEq] at hy
        subst hy
        obtain ⟨⟨cs', h1, h2⟩, _⟩ := Classical.choose_spec (hex j hj)
        refine ⟨cs', h2, fun i u hu => ?_⟩
        obtain ⟨_, h5, h6⟩ := World.cells?_some h1
        have hi : i < P.cellsOf e := by rw [← h5]; exact (List.getElem?_eq_some_iff.1 hu).1
        have := h6 i hi
        rw [hu, add_add, he.sz] at this
        exact this
      · simp at hy
    · rw [List.length_ofFn]
      have h1 := bulk_len ((List.range len).map D)
      rw [List.length_map, List.length_range] at h1
      simp only [Rows.uptoBulk]
      omega
    · obtain ⟨i, hi⟩ := (List.mem_ofFn ..).1 hy
      subst hi
      refine ⟨Rows.uptoBulk (D i.1), ?_, (Classical.choose_spec (hex i.1 i.2)).2⟩
      have h1 := bulk_part (d := D i.1) (l := (List.range len).map D) (List.mem_map.2 ⟨i.1, List.mem_range.2 i.2, rfl⟩)
      simp only [Rows.uptoBulk]
      omega⟩
/-- A table. -/
def kTb : Kn Tb where
  sz := 2
  K := fun w t cs => ∃ A B ca cb, cs = [.slice A t.mv.length ca, .slice B t.go.length cb] ∧ t.rd w A B
  len := fun ⟨_, _, _, _, h, _⟩ => by rw [h]; rfl
  one := fun ⟨_, _, _, _, h, _⟩ u hu => by
    rw [h] at hu
    simp only [List.mem_cons, List.not_mem_nil, or_false] at hu
    rcases hu with rfl | rfl <;> rfl
  st := fun hb ⟨A, B, ca, cb, h, hr⟩ => ⟨A, B, ca, cb, h, hr.below hb⟩
theorem rds_tb {f0 f1 : Field} {t0 t1 : TypeId} (ht : P.underlying t = some (.struct #[f0, f1])) (hc : P.cellsOf t = 2) (h0 : (f0.type, f0.offset) = (t0, 0)) (h1 : (f1.type, f1.offset) = (t1, 1))
    {B0 B1 : _} (r0 : Rds P t0 fMv.kn.sl.sl B0) (r1 : Rds P t1 (kInt .i64).sl.sl B1) : Rds P t kTb (fun a n => ∃ n0 n1, n0 + n1 ≤ n ∧ B0 a.mv n0 ∧ B1 a.go n1) := ⟨hc, fun {H enc w base spare held fuel cs x} h => by
  simp only [Prod.mk.injEq] at h0 h1
  obtain ⟨y0, y1, n, rfl, hl, e0, e1⟩ := trod_struct2 ht h
  rw [h0.1, h0.2] at e0
  rw [h1.1, h1.2] at e1
  have s0 : P.cellsOf t0 = 1 := r0.sz
  have s1 : P.cellsOf t1 = 1 := r1.sz
  rw [s0] at e0
  rw [s1] at e1
  obtain ⟨mv, ⟨A, ca, ha, _, hra⟩, b0⟩ := r0.rd e0
  obtain ⟨go, ⟨B, cb, hb, _, hrb⟩, b1⟩ := r1.rd e1
  rw [hc] at hl
  obtain ⟨c0, c1, rfl⟩ := two_len hl
  · simp at ha hb
    subst ha hb
    exact ⟨⟨mv, go⟩, ⟨A, B, ca, cb, rfl, hra, hrb⟩, _, _, by simp only [Rows.uptoBulk, Rows.uptoBulkAll]; omega, b0, b1⟩⟩
def BRow (K : List Mv → Nat → Prop) : Prop := True
abbrev BMv (xs : List Mv) (n : Nat) : Prop := xs.length + 1 ≤ n ∧ ∀ x ∈ xs, ∃ m, m ≤ n ∧ (I64 x.d ∧ I64 x.n) ∧ 1 ≤ m
abbrev BInt (xs : List Int) (n : Nat) : Prop := xs.length + 1 ≤ n ∧ ∀ x ∈ xs, ∃ m, m ≤ n ∧ (Lit.int .i64 x).wf = true ∧ 1 ≤ m
theorem tb_ok {a : Tb} {n0 n1 : Nat} (h0 : a.mv.length + 1 ≤ n0 ∧ ∀ x ∈ a.mv, ∃ m, m ≤ n0 ∧ BMv x m) (h1 : a.go.length + 1 ≤ n1 ∧ ∀ x ∈ a.go, ∃ m, m ≤ n1 ∧ BInt x m) (hn : n0 + n1 ≤ 1048576) : a.ok :=
  ⟨by omega, by omega, fun r hr => by
    obtain ⟨m, hm, h2, h3⟩ := h0.2 r hr
    exact ⟨by omega, fun x hx => by obtain ⟨_, _, h4, _⟩ := h3 x hx; exact h4⟩, fun r hr => by
    obtain ⟨m, hm, h2, h3⟩ := h1.2 r hr
    exact ⟨by omega, fun x hx => by obtain ⟨_, _, h4, _⟩ := h3 x hx; exact i64_wf h4⟩⟩
end
end Go.Proofs.YtgdemplcpcacaaaFx

/-! Slices cut. -/
namespace Go.Proofs.YtgdemplcpcacaaaFx
open Go Go.RowKit
def cutA (A : Option Addr) (l m s : Nat) : Option Addr := if m = l then A else A.map (·.add (l * s))
theorem add_zero' (a : Addr) : a.add 0 = a := by simp [Addr.add]
theorem elem_is {P : Program} {t e : TypeId} (ht : P.underlying t = some (.slice e)) : P.elem t = e := by simp [Program.elem, ht]
section
variable {α : Type} {d : Kn α} {f : Fk α} {w W0 : World} {A : Option Addr} {xs : List α} {lo c e m : Nat} {L L' : List Ch}
theorem Rd.cut (h : Rd d w A xs) (hl : lo ≤ xs.length) (hc : xs.length ≤ c) : Rd d w (cutA A lo c d.sz) (xs.drop lo) := by
  unfold cutA
  split
  · rw [List.drop_of_length_le (by omega)]
    exact Rd.nil _ _ _
  · rename_i hne
    refine ⟨fun hp => ?_, fun j x hx => ?_⟩
    · rw [List.length_drop] at hp
      rw [h.ad (by omega)]
      rfl
    · rw [List.getElem?_drop] at hx
      have hA := h.ad (by have := (List.getElem?_eq_some_iff.1 hx).1; omega)
      obtain ⟨cs, h1, h2⟩ := h.el _ _ hx
      refine ⟨cs, h1, fun i u hu => ?_⟩
      have := h2 i u hu
      rw [hA]
      show w.cell? (((adr A).add (lo * d.sz)).add _) = _
      rw [add_add, ← Nat.add_assoc, ← Nat.add_mul]
      exact this
/-- The head of a row of the call's own. -/
theorem Holds.rcut (H : Holds W0 L w) (U : Upd L (Row f e (.slice A m c) xs) (Row f e (.slice A lo c) (xs.take lo)) L') (hl : lo ≤ xs.length) : Holds W0 L' w :=
  H.imp U fun S ⟨h1, h2⟩ => by
    have e1 : (xs.take lo).length = lo := by rw [List.length_take]; omega
    have hfl := flat_len f xs
    have hle : lo * f.sz ≤ xs.length * f.sz := Nat.mul_le_mul_right _ hl
    have e2 : (xs.take lo).flatMap f.enc = (xs.flatMap f.enc).take (lo * f.sz) := by
      have h3 : xs.flatMap f.enc = (xs.take lo).flatMap f.enc ++ (xs.drop lo).flatMap f.enc := by rw [← List.flatMap_append, List.take_append_drop]
      have h4 := flat_len f (xs.take lo)
      rw [e1] at h4
      rw [h3, ← h4, List.take_left']
      rfl
    refine ⟨fun k hk => h1 k (by cases A <;> exact hk), by rw [flat_len], ?_⟩
    rw [e1]
    rcases h2.2 with ⟨hv, hz⟩ | ⟨g, cap, cur, hv, hg, hh, hn, hcm, hsz, hcur⟩
    · injection hv with a1 a2 a3
      subst a1 a2 a3
      exact .inl ⟨by rw [show lo = 0 by omega], by omega⟩
    · injection hv with a1 a2 a3
      subst a1 a2 a3
      refine .inr ⟨g, c, cur, rfl, hg, hh, by omega, hcm, hsz, ?_⟩
      rw [e2, ← hcur, List.take_take, Nat.min_eq_left hle]
end
section
variable {P : Program} {n : Nat} {Q : Post} {l : Fr} {w : World} {d : Nat} {x y z : Operand} {ty t e : TypeId} {pos : String} {af : Array Edge} {A : Option Addr} {m c sz : Nat} {k k2 : IntKind} {lo hi : Int}
theorem v_cutlo (ht : P.underlying t = some (.slice e)) (hsz : ∀ W, (sizeOf e).run P W = .ok sz W) (hx : ev l x = some (.slice A m c)) (hy : ev l y = some (.int k lo)) (h0 : 0 ≤ lo) (h1 : lo ≤ m) :
    Vs P n l ⟨some d, .slice t x (some y) none none, ty, pos, af, none⟩ w (.slice (cutA A lo.toNat c sz) (m - lo.toNat) (c - lo.toNat)) := fun a ha => by
  have ht' : P.underlying t = some (.slice (P.elem t)) := by rw [elem_is ht]; exact ht
  have h := run_slice_l (P := P) w t A m c ht' k lo h0 h1
  rw [elem_is ht, hsz] at h
  simp [execOp, ha.eval hx, ha.eval hy, run_sliceAt_slice w t _ _ _ _ ht', h, sliced, cutA]
theorem v_cuthi (ht : P.underlying t = some (.slice e)) (hsz : ∀ W, (sizeOf e).run P W = .ok sz W) (hx : ev l x = some (.slice A m c)) (hy : ev l y = some (.int k hi)) (h0 : 0 ≤ hi) (h1 : hi ≤ c) :
    Vs P n l ⟨some d, .slice t x none (some y) none, ty, pos, af, none⟩ w (.slice A hi.toNat c) := fun a ha => by
  have ht' : P.underlying t = some (.slice (P.elem t)) := by rw [elem_is ht]; exact ht
  have h := run_slice_h (P := P) w t A m c ht' k hi h0 h1
  rw [elem_is ht, hsz] at h
  have e1 : (fun x : Addr => x.add 0) = id := funext fun a => add_zero' a
  simp [execOp, ha.eval hx, ha.eval hy, run_sliceAt_slice w t _ _ _ _ ht', h, sliced, e1]
end
end Go.Proofs.YtgdemplcpcacaaaFx
