/- The document's values. The value of a tree is the document's. An action that a tree does not use has no part in its value. -/
import Derived.Test.YtgdemplcpcacaaaProg
import Derived.Test.YtgdemplcpcacaaaK15
import Derived.Test.YtgdemplcpcacaaaK13
import Derived.Test.YtgdemplcpcacaaaK11
import Derived.Test.YtgdemplcpcacaaaK14
set_option linter.unusedVariables false
set_option linter.unusedSimpArgs false
/-! The document's values. -/
namespace Go.Proofs.Ytgdemplcpcacaaa.RValue
open Go Go.RowKit Go.Proofs.YtgdemplcpcacaaaFx Go.Proofs.Ytgdemplcpcacaaa.PartsW Go.Proofs.Ytgdemplcpcacaaa.KindsW Go.Proofs.Ytgdemplcpcacaaa.GramW Go.Proofs.Ytgdemplcpcacaaa.RCheck
theorem agg24 : Agg Try.prog 24 4 := agg_of Try.underlying24 (by kernel_rfl)
theorem agg44 : Agg Try.prog 44 5 := agg_of Try.underlying44 (by kernel_rfl)
theorem agg50 : Agg Try.prog 50 3 := agg_of Try.underlying50 (by kernel_rfl)
theorem agg69 : Agg Try.prog 69 4 := agg_of Try.underlying69 (by kernel_rfl)
theorem ba115 : BuildAt Try.prog 115 [.slice none 0 0, .slice none 0 0, .slice none 0 0, .slice none 0 0, .int .i64 0, .int .i64 0, .int .i64 0] [(0, 5), (5, 1), (6, 1)] := build_at Try.underlying115 (by kernel_rfl) (by kernel_rfl)
theorem ba24 : BuildAt Try.prog 24 [.int .i64 0, .string ⟨#[]⟩, .int .i64 0, .slice none 0 0] [(0, 1), (1, 1), (2, 1), (3, 1)] := build_at Try.underlying24 (by kernel_rfl) (by kernel_rfl)
theorem en42 : Enters Try.prog 42 := enters Try.func42 (by kernel_rfl) rfl
theorem en43 : Enters Try.prog 43 := enters Try.func43 (by kernel_rfl) rfl
theorem en44 : Enters Try.prog 44 := enters Try.func44 (by kernel_rfl) rfl
theorem en45 : Enters Try.prog 45 := enters Try.func45 (by kernel_rfl) rfl
theorem en71 : Enters Try.prog 71 := enters Try.func71 (by kernel_rfl) rfl
theorem en72 : Enters Try.prog 72 := enters Try.func72 (by kernel_rfl) rfl
theorem en73 : Enters Try.prog 73 := enters Try.func73 (by kernel_rfl) rfl
theorem fa115_0 : FieldAt Try.prog 115 0 0 := field_at (sz := 4) Try.underlying115 rfl (by kernel_rfl) rfl
theorem fa115_1 : FieldAt Try.prog 115 1 5 := field_at (sz := 0) Try.underlying115 rfl (by kernel_rfl) rfl
theorem fa115_2 : FieldAt Try.prog 115 2 6 := field_at (sz := 0) Try.underlying115 rfl (by kernel_rfl) rfl
theorem fa24_3 : FieldAt Try.prog 24 3 3 := field_at (sz := 0) Try.underlying24 rfl (by kernel_rfl) rfl
theorem fa44_3 : FieldAt Try.prog 44 3 3 := field_at (sz := 0) Try.underlying44 rfl (by kernel_rfl) rfl
theorem fa50_0 : FieldAt Try.prog 50 0 0 := field_at (sz := 0) Try.underlying50 rfl (by kernel_rfl) rfl
theorem fa50_1 : FieldAt Try.prog 50 1 1 := field_at (sz := 0) Try.underlying50 rfl (by kernel_rfl) rfl
theorem fa50_2 : FieldAt Try.prog 50 2 2 := field_at (sz := 0) Try.underlying50 rfl (by kernel_rfl) rfl
theorem fa69_0 : FieldAt Try.prog 69 0 0 := field_at (sz := 0) Try.underlying69 rfl (by kernel_rfl) rfl
theorem fa69_1 : FieldAt Try.prog 69 1 1 := field_at (sz := 0) Try.underlying69 rfl (by kernel_rfl) rfl
theorem fa69_2 : FieldAt Try.prog 69 2 2 := field_at (sz := 0) Try.underlying69 rfl (by kernel_rfl) rfl
theorem fa69_3 : FieldAt Try.prog 69 3 3 := field_at (sz := 0) Try.underlying69 rfl (by kernel_rfl) rfl
theorem fa73_1 : FieldAt Try.prog 73 1 1 := field_at (sz := 0) Try.underlying73 rfl (by kernel_rfl) rfl
theorem fa73_3 : FieldAt Try.prog 73 3 3 := field_at (sz := 3) Try.underlying73 rfl (by kernel_rfl) rfl
theorem info24 : (Try.prog.info? 24).map (fun i => (i.zero, i.size, i.bytes)) = some (some (.agg #[.int .i64 0, .string ⟨#[]⟩, .int .i64 0, .slice none 0 0]), 4, 56) := by kernel_rfl
theorem mixed : Try.prog.follows .mixedOrders = true := by kernel_rfl
theorem one22 : One Try.prog 22 := one_of Try.underlying22 rfl (by kernel_rfl)
theorem one3 : One Try.prog 3 := one_of Try.underlying3 rfl (by kernel_rfl)
theorem one42 : One Try.prog 42 := one_of Try.underlying42 rfl (by kernel_rfl)
theorem one48 : One Try.prog 48 := one_of Try.underlying48 rfl (by kernel_rfl)
theorem one51 : One Try.prog 51 := one_of Try.underlying51 rfl (by kernel_rfl)
theorem one67 : One Try.prog 67 := one_of Try.underlying67 rfl (by kernel_rfl)
theorem one9 : One Try.prog 9 := one_of Try.underlying9 rfl (by kernel_rfl)
theorem sz115 : ∀ W, (sizeOf 115).run Try.prog W = .ok 7 W := size_of (by kernel_rfl)
theorem sz22 : ∀ W, (sizeOf 22).run Try.prog W = .ok 1 W := size_of (by kernel_rfl)
theorem sz24 : ∀ W, (sizeOf 24).run Try.prog W = .ok 4 W := size_of (by kernel_rfl)
theorem sz3 : ∀ W, (sizeOf 3).run Try.prog W = .ok 1 W := size_of (by kernel_rfl)
theorem sz50 : ∀ W, (sizeOf 50).run Try.prog W = .ok 3 W := size_of (by kernel_rfl)
theorem sz69 : ∀ W, (sizeOf 69).run Try.prog W = .ok 4 W := size_of (by kernel_rfl)
theorem sz73 : ∀ W, (sizeOf 73).run Try.prog W = .ok 7 W := size_of (by kernel_rfl)
theorem zv115 : ∀ W, (zeroValue 115).run Try.prog W = .ok (.agg #[.slice none 0 0, .slice none 0 0, .slice none 0 0, .slice none 0 0, .int .i64 0, .int .i64 0, .int .i64 0]) W := zero_of (by kernel_rfl)
theorem zv24 : ∀ W, (zeroValue 24).run Try.prog W = .ok (.agg #[.int .i64 0, .string ⟨#[]⟩, .int .i64 0, .slice none 0 0]) W := zero_of (by kernel_rfl)

set_option maxRecDepth 100000 in
theorem made_calls {g : Pl} {a : PlA} {w0 w : World} {L : List Ch} {bm : Nat} {made why : Int} (hm : 0 ≤ made ∧ made ≤ 65537) (HH : Holds w0 (Blk bm 115 [.slice a.k g.kinds.length a.ck, .slice a.p g.precs.length a.cp, .slice a.r g.rules.length a.cr, .slice a.q g.prods.length a.cq, .int .i64 g.start, .int .i64 made, .int .i64 why] :: L) w) :
    Calls Try.prog 72 #[.pointer (some ⟨bm, 0, none⟩)] w fun e w' => ∃ v, e = .returned v ∧ ∃ why2, ((65536 < made + 1 ∧ why2 = 213) ∨ (¬ 65536 < made + 1 ∧ why2 = why)) ∧ Holds w0 (Blk bm 115 [.slice a.k g.kinds.length a.ck, .slice a.p g.precs.length a.cp, .slice a.r g.rules.length a.cr, .slice a.q g.prods.length a.cq, .int .i64 g.start, .int .i64 (made + 1), .int .i64 why2] :: L) w' := by
  refine calls_of Try.func72 rfl Try.ntmps72 rfl ?_
  have H := HH
  refine wcR ?_
  refine wM ?_
  refine wV (v_nil rfl) ?_
  refine wV (v_fb (o2 := 5) fa115_1 rfl rfl) ?_
  refine wV (v_load one3 rfl (H.at (by repeat constructor) rfl)) ?_
  refine wV (v_addi rfl rfl (by omega)) ?_
  refine wV (v_nil rfl) ?_
  refine wV (v_fb (o2 := 5) fa115_1 rfl rfl) ?_
  refine wl_store (vs := [_]) H (by repeat constructor) sz3 rfl rfl rfl rfl rfl (by (repeat constructor)) ?_
  intro w1 H2 hw1
  refine wl_nil ?_
  refine wcR ?_
  refine wM ?_
  refine wV (v_nil rfl) ?_
  refine wV (v_fb (o2 := 5) fa115_1 rfl rfl) ?_
  refine wV (v_load one3 rfl (H2.at (by repeat constructor) rfl)) ?_
  refine wV (v_gtr rfl rfl) ?_
  refine wl_nil ?_
  refine wc_cond rfl (fun c0 => ?_) (fun c0 => ?_)
  ·have c0p := of_decide_eq_true c0
   refine wc_region ?_
   refine wM ?_
   refine wV (v_nil rfl) ?_
   refine wV (v_fb (o2 := 6) fa115_2 rfl rfl) ?_
   refine wl_store (vs := [_]) H2 (by repeat constructor) sz3 rfl rfl rfl rfl rfl (by (repeat constructor)) ?_
   intro w3 H4 hw3
   refine wl_nil ?_
   first
     | exact ⟨_, res0 rfl, 213, .inl ⟨by omega, rfl⟩, H4⟩
     | exact ⟨_, res0 rfl, why, .inr ⟨by omega, rfl⟩, H4⟩
  ·have c0p := of_decide_eq_false c0
   refine wc_skip ?_
   first
     | exact ⟨_, res0 rfl, 213, .inl ⟨by omega, rfl⟩, H2⟩
     | exact ⟨_, res0 rfl, why, .inr ⟨by omega, rfl⟩, H2⟩

def RPlainOk (t : Ac) : Prop := ∀ (w : World) (B : Option Addr) (k : Nat) (syms : Int) (hr : Rd (kTr fAc) w B t.kids) (hall : t.All (nodeOk syms)) (hcn : t.cnt ≤ 1099511627776), Calls Try.prog 71 #[.agg #[.int .i64 t.x.kind, .int .i64 t.x.at_, .string t.x.name, .slice B t.kids.length k], .int .i64 syms] w fun e w' => ∃ v, e = .returned v ∧ v = .bool true ∧ Holds w [] w'

set_option maxHeartbeats 3200000 in
set_option maxRecDepth 100000 in
theorem rplain_step {w : World} {B : Option Addr} {k : Nat} {syms : Int} {t : Ac} (hr : Rd (kTr fAc) w B t.kids) (hall : t.All (nodeOk syms)) (hcn : t.cnt ≤ 1099511627776) (ih : ∀ t' ∈ t.kids, RPlainOk t') : Calls Try.prog 71 #[.agg #[.int .i64 t.x.kind, .int .i64 t.x.at_, .string t.x.name, .slice B t.kids.length k], .int .i64 syms] w fun e w' => ∃ v, e = .returned v ∧ v = .bool true ∧ Holds w [] w' := by
  obtain ⟨hn, hks⟩ := (Tr.All_eq t).1 hall
  have hcnt := Tr.cnt_eq t
  have hkl := Tr.cnts_len t.kids
  refine calls_of Try.func71 rfl Try.ntmps71 rfl ?_
  have H := Holds.start w
  refine wcR ?_
  refine wl_box (cs := [_, _, _, _]) H rfl rfl rfl ?_
  intro b2 w1 hb2 H2
  refine wA ?_
  refine wl_nil ?_
  refine wc_seq ?_
  refine wcR ?_
  refine wA ?_
  refine wl_nil ?_
  refine wc_block ?_
  refine wc_loop (σ := Nat) (fun s => [(1, .int .i64 syms), (2, .pointer (some ⟨b2, 0, none⟩)), (5, .int .i64 s)]) (fun s W => s ≤ t.kids.length ∧ Holds w [Blk b2 69 [.int .i64 t.x.kind, .int .i64 t.x.at_, .string t.x.name, .slice B t.kids.length k]] W) (fun s => t.kids.length - s) 0 (sc rfl (sc rfl (sc rfl (sn _)))) ⟨Nat.zero_le _, H2⟩ ?_
  rintro i W0 ⟨hi, H⟩
  refine wc_seq ?_
  refine wcR ?_
  refine wM ?_
  refine wV (v_fb (o2 := 3) fa69_3 rfl rfl) ?_
  refine wV (v_load one67 rfl (H.at (by repeat constructor) rfl)) ?_
  refine wV (v_len Try.underlying67 rfl) ?_
  refine wV (v_lss rfl rfl) ?_
  refine wl_nil ?_
  refine wc_cond rfl (fun c0 => ?_) (fun c0 => ?_)
  ·have c0p := of_decide_eq_true c0
   refine wc_skip ?_
   refine wc_seq ?_
   refine wc_block ?_
   refine wcR ?_
   refine wV (v_fb (o2 := 0) fa69_0 rfl rfl) ?_
   refine wV (v_load one3 rfl (H.at (by repeat constructor) rfl)) ?_
   refine wV (v_neq rfl rfl) ?_
   refine wM ?_
   refine wl_guard rfl rfl rfl (fun g16 => ?_) (fun g16 => ?_)
   ·have g16p := of_nd_f g16
    refine wV (v_fb (o2 := 3) fa69_3 rfl rfl) ?_
    refine wO g16 ?_
    refine wV (v_load one67 rfl (H.at (by repeat constructor) rfl)) ?_
    refine wO g16 ?_
    refine wM ?_
    refine wO g16 ?_
    refine wV (v_idx Try.underlying67 sz69 hr.ad rfl rfl (by omega) (by omega)) ?_
    refine wO g16 ?_
    obtain ⟨B21_, k21_, hc21_, hl21_, hr21_⟩ := hr.atTr ac0 (i := i) (by omega)
    refine wV (v_loadN (cs := [.int .i64 (t.kids.getD i ac0).x.kind, .int .i64 (t.kids.getD i ac0).x.at_, .string (t.kids.getD i ac0).x.name, .slice B21_ (t.kids.getD i ac0).kids.length k21_]) agg69 rfl rfl (fun q_ u_ hu_ => H.cell (hc21_ q_ u_ hu_))) ?_
    refine wO g16 ?_
    refine wM ?_
    refine wO g16 ?_
    refine wl_call en71 rfl rfl (ih _ (getD_mem (z := ac0) (show i < t.kids.length by omega)) _ _ _ syms (hr21_.below H.old) (Tr.Alls_at ac0 (by omega) hks) (by have h_ := Tr.cnts_succ ac0 t.kids i (by omega); have h2_ := Tr.cnts_take t.kids (i + 1); omega)) ?_
    rintro _ w4 ⟨rfl, Hc⟩
    have H5 := H.call0 Hc
    refine wO g16 ?_
    refine wV (v_not rfl) ?_
    refine wV (v_pick_f rfl g16 rfl) ?_
    refine wl_nil ?_
    refine wc_cond_f rfl ?_
    refine wc_skip ?_
    refine wc_region ?_
    refine wM ?_
    refine wV (v_addi rfl rfl (by omega)) ?_
    refine wA ?_
    refine wl_nil ?_
    exact ⟨i + 1, (sc rfl (sc rfl (sc rfl (sn _)))), ⟨by omega, H5.pm (by repeat constructor)⟩, by omega⟩
   ·have g16p := of_nd_t g16
    refine wF g16 ?_
    refine wF g16 ?_
    refine wF g16 ?_
    refine wF g16 ?_
    refine wF g16 ?_
    refine wF g16 ?_
    refine wF g16 ?_
    refine wV (v_pick_t rfl g16 rfl) ?_
    refine wl_nil ?_
    refine wc_cond_t rfl ?_
    refine wcR ?_
    refine wA ?_
    refine wl_nil ?_
    refine wc_ret ?_
    first
      | exact ⟨_, res1 rfl rfl, congrArg Value.bool (decide_eq_true (by unfold nodeOk at hn; omega)), H.pm (Pm.nil _)⟩
      | (have h_ := of_dec (hok.symm.trans c5)
         exact ⟨_, res1 rfl rfl, congrArg Value.bool (decide_eq_true (by unfold nodeOk at hn; omega)), H.pm (Pm.nil _)⟩)
      | (have h_ := of_ndec (hok.symm.trans c5)
         exact absurd hn (by unfold nodeOk; omega))
      | exact absurd hn (by unfold nodeOk; omega)
  ·have c0p := of_decide_eq_false c0
   refine wc_exit ?_
   refine wc_seq ?_
   refine wcR ?_
   refine wV (v_fb (o2 := 0) fa69_0 rfl rfl) ?_
   refine wV (v_load one3 rfl (H.at (by repeat constructor) rfl)) ?_
   refine wl_nil ?_
   refine wc_block ?_
   refine wcR ?_
   refine wV (v_eql rfl rfl) ?_
   refine wA ?_
   refine wl_nil ?_
   refine wc_cond rfl (fun c2 => ?_) (fun c2 => ?_)
   ·have c2p := of_decide_eq_true c2
    refine wcR ?_
    refine wV (v_fb (o2 := 1) fa69_1 rfl rfl) ?_
    refine wV (v_load one3 rfl (H.at (by repeat constructor) rfl)) ?_
    refine wV (v_eql rfl rfl) ?_
    refine wM ?_
    refine wl_guard rfl rfl rfl (fun g33 => ?_) (fun g33 => ?_)
    ·have g33p := of_decide_eq_true g33
     refine wV (v_fb (o2 := 2) fa69_2 rfl rfl) ?_
     refine wO g33 ?_
     refine wV (v_load one9 rfl (H.at (by repeat constructor) rfl)) ?_
     refine wO g33 ?_
     refine wV (v_eql0 rfl rfl) ?_
     refine wV (v_pick_t rfl g33 rfl) ?_
     refine wA ?_
     refine wl_nil ?_
     refine wc_ret ?_
     first
       | exact ⟨_, res1 rfl rfl, congrArg Value.bool (decide_eq_true (by unfold nodeOk at hn; omega)), H.pm (Pm.nil _)⟩
       | (have h_ := of_dec (hok.symm.trans c5)
          exact ⟨_, res1 rfl rfl, congrArg Value.bool (decide_eq_true (by unfold nodeOk at hn; omega)), H.pm (Pm.nil _)⟩)
       | (have h_ := of_ndec (hok.symm.trans c5)
          exact absurd hn (by unfold nodeOk; omega))
       | exact absurd hn (by unfold nodeOk; omega)
    ·have g33p := of_decide_eq_false g33
     refine wF g33 ?_
     refine wF g33 ?_
     refine wV (v_pick_f rfl g33 rfl) ?_
     refine wA ?_
     refine wl_nil ?_
     refine wc_ret ?_
     first
       | exact ⟨_, res1 rfl rfl, congrArg Value.bool (decide_eq_true (by unfold nodeOk at hn; omega)), H.pm (Pm.nil _)⟩
       | (have h_ := of_dec (hok.symm.trans c5)
          exact ⟨_, res1 rfl rfl, congrArg Value.bool (decide_eq_true (by unfold nodeOk at hn; omega)), H.pm (Pm.nil _)⟩)
       | (have h_ := of_ndec (hok.symm.trans c5)
          exact absurd hn (by unfold nodeOk; omega))
       | exact absurd hn (by unfold nodeOk; omega)
   ·have c2p := of_decide_eq_false c2
    refine wcR ?_
    refine wV (v_eql rfl rfl) ?_
    refine wA ?_
    refine wl_nil ?_
    refine wc_cond rfl (fun c3 => ?_) (fun c3 => ?_)
    ·have c3p := of_decide_eq_true c3
     refine wcR ?_
     refine wV (v_fb (o2 := 1) fa69_1 rfl rfl) ?_
     refine wV (v_load one3 rfl (H.at (by repeat constructor) rfl)) ?_
     refine wV (v_geq rfl rfl) ?_
     refine wM ?_
     refine wl_guard rfl rfl rfl (fun g43 => ?_) (fun g43 => ?_)
     ·have g43p := of_decide_eq_true g43
      refine wV (v_fb (o2 := 1) fa69_1 rfl rfl) ?_
      refine wO g43 ?_
      refine wV (v_load one3 rfl (H.at (by repeat constructor) rfl)) ?_
      refine wO g43 ?_
      refine wM ?_
      refine wO g43 ?_
      refine wV (v_lss rfl rfl) ?_
      refine wV (v_pick_t rfl g43 rfl) ?_
      refine wM ?_
      refine wl_guard rfl rfl rfl (fun g49 => ?_) (fun g49 => ?_)
      ·have g49p := of_decide_eq_true g49
       refine wV (v_fb (o2 := 2) fa69_2 rfl rfl) ?_
       refine wO g49 ?_
       refine wV (v_load one9 rfl (H.at (by repeat constructor) rfl)) ?_
       refine wO g49 ?_
       refine wV (v_eql0 rfl rfl) ?_
       refine wV (v_pick_t rfl g49 rfl) ?_
       refine wA ?_
       refine wl_nil ?_
       refine wc_ret ?_
       first
         | exact ⟨_, res1 rfl rfl, congrArg Value.bool (decide_eq_true (by unfold nodeOk at hn; omega)), H.pm (Pm.nil _)⟩
         | (have h_ := of_dec (hok.symm.trans c5)
            exact ⟨_, res1 rfl rfl, congrArg Value.bool (decide_eq_true (by unfold nodeOk at hn; omega)), H.pm (Pm.nil _)⟩)
         | (have h_ := of_ndec (hok.symm.trans c5)
            exact absurd hn (by unfold nodeOk; omega))
         | exact absurd hn (by unfold nodeOk; omega)
      ·have g49p := of_decide_eq_false g49
       refine wF g49 ?_
       refine wF g49 ?_
       refine wV (v_pick_f rfl g49 rfl) ?_
       refine wA ?_
       refine wl_nil ?_
       refine wc_ret ?_
       first
         | exact ⟨_, res1 rfl rfl, congrArg Value.bool (decide_eq_true (by unfold nodeOk at hn; omega)), H.pm (Pm.nil _)⟩
         | (have h_ := of_dec (hok.symm.trans c5)
            exact ⟨_, res1 rfl rfl, congrArg Value.bool (decide_eq_true (by unfold nodeOk at hn; omega)), H.pm (Pm.nil _)⟩)
         | (have h_ := of_ndec (hok.symm.trans c5)
            exact absurd hn (by unfold nodeOk; omega))
         | exact absurd hn (by unfold nodeOk; omega)
     ·have g43p := of_decide_eq_false g43
      refine wF g43 ?_
      refine wF g43 ?_
      refine wF g43 ?_
      refine wV (v_pick_f rfl g43 rfl) ?_
      refine wM ?_
      refine wF rfl ?_
      refine wF rfl ?_
      refine wF rfl ?_
      refine wV (v_pick_f rfl rfl rfl) ?_
      refine wA ?_
      refine wl_nil ?_
      refine wc_ret ?_
      first
        | exact ⟨_, res1 rfl rfl, congrArg Value.bool (decide_eq_true (by unfold nodeOk at hn; omega)), H.pm (Pm.nil _)⟩
        | (have h_ := of_dec (hok.symm.trans c5)
           exact ⟨_, res1 rfl rfl, congrArg Value.bool (decide_eq_true (by unfold nodeOk at hn; omega)), H.pm (Pm.nil _)⟩)
        | (have h_ := of_ndec (hok.symm.trans c5)
           exact absurd hn (by unfold nodeOk; omega))
        | exact absurd hn (by unfold nodeOk; omega)
    ·have c3p := of_decide_eq_false c3
     refine wc_cut (σ := Bool) (fun q => [(1, .int .i64 syms), (2, .pointer (some ⟨b2, 0, none⟩)), (54, .bool q)]) (fun q W => (q = dec (t.x.kind = 3 ∨ t.x.kind = 2)) ∧ Holds w [Blk b2 69 [.int .i64 t.x.kind, .int .i64 t.x.at_, .string t.x.name, .slice B t.kids.length k]] W) ?_ ?_
     ·refine wcR ?_
      refine wV (v_eql rfl rfl) ?_
      refine wA ?_
      refine wl_nil ?_
      refine wc_cond rfl (fun c4 => ?_) (fun c4 => ?_)
      ·have c4p := of_decide_eq_true c4
       refine wc_skip ?_
       first
         | exact ⟨_, (sc rfl (sc rfl (sc rfl (sn _)))), ⟨dec_eq ⟨fun hd => (by have h_ := of_decide_eq_true hd; omega), fun hh => decide_eq_true (by omega)⟩, H.pm (by repeat constructor)⟩⟩
      ·have c4p := of_decide_eq_false c4
       refine wc_region ?_
       refine wV (v_eql rfl rfl) ?_
       refine wA ?_
       refine wl_nil ?_
       first
         | exact ⟨_, (sc rfl (sc rfl (sc rfl (sn _)))), ⟨dec_eq ⟨fun hd => (by have h_ := of_decide_eq_true hd; omega), fun hh => decide_eq_true (by omega)⟩, H.pm (by repeat constructor)⟩⟩
     ·rintro ok Wm ⟨hok, H⟩
      refine wc_cond rfl (fun c5 => ?_) (fun c5 => ?_)
      ·refine wcR ?_
       refine wV (v_fb (o2 := 1) fa69_1 rfl rfl) ?_
       refine wV (v_load one3 rfl (H.at (by repeat constructor) rfl)) ?_
       refine wV (v_eql rfl rfl) ?_
       refine wA ?_
       refine wl_nil ?_
       refine wc_ret ?_
       first
         | exact ⟨_, res1 rfl rfl, congrArg Value.bool (decide_eq_true (by unfold nodeOk at hn; omega)), H.pm (Pm.nil _)⟩
         | (have h_ := of_dec (hok.symm.trans c5)
            exact ⟨_, res1 rfl rfl, congrArg Value.bool (decide_eq_true (by unfold nodeOk at hn; omega)), H.pm (Pm.nil _)⟩)
         | (have h_ := of_ndec (hok.symm.trans c5)
            exact absurd hn (by unfold nodeOk; omega))
         | exact absurd hn (by unfold nodeOk; omega)
      ·refine wc_skip ?_
       refine wcR ?_
       refine wA ?_
       refine wl_nil ?_
       refine wc_ret ?_
       first
         | exact ⟨_, res1 rfl rfl, congrArg Value.bool (decide_eq_true (by unfold nodeOk at hn; omega)), H.pm (Pm.nil _)⟩
         | (have h_ := of_dec (hok.symm.trans c5)
            exact ⟨_, res1 rfl rfl, congrArg Value.bool (decide_eq_true (by unfold nodeOk at hn; omega)), H.pm (Pm.nil _)⟩)
         | (have h_ := of_ndec (hok.symm.trans c5)
            exact absurd hn (by unfold nodeOk; omega))
         | exact absurd hn (by unfold nodeOk; omega)

theorem rplain_calls : ∀ t : Ac, RPlainOk t := Tr.ind fun x kids ih => fun w B k syms hr hall hcn => rplain_step (t := .mk x kids) hr hall hcn ih

def AllOk (g : Pl) (d : Dv) : Prop := ∀ (a : PlA) (w : World) (B : Option Addr) (bm k : Nat) (hm : ∀ j u, ([.slice a.k g.kinds.length a.ck, .slice a.p g.precs.length a.cp, .slice a.r g.rules.length a.cr, .slice a.q g.prods.length a.cq, .int .i64 g.start] : List Value)[j]? = some u → w.cell? ⟨bm, j, none⟩ = some u) (hrg : g.rd w a) (hr : Rd (kTr fDv) w B d.kids) (hd : d.All (dvOk g)) (hcn : d.cnt ≤ 1099511627776), Calls Try.prog 44 #[.pointer (some ⟨bm, 0, none⟩), .agg #[.int .i64 d.x.prod, .int .i64 d.x.tok, .slice B d.kids.length k]] w fun e w' => ∃ v, e = .returned v ∧ v = .bool true ∧ Holds w [] w'

set_option maxHeartbeats 3200000 in
set_option maxRecDepth 100000 in
theorem all_step {g : Pl} {a : PlA} {w : World} {B : Option Addr} {bm k : Nat} {d : Dv} (hact : ActsOk g) (hgq : g.prods.length ≤ 1099511627776) (hm : ∀ j u, ([.slice a.k g.kinds.length a.ck, .slice a.p g.precs.length a.cp, .slice a.r g.rules.length a.cr, .slice a.q g.prods.length a.cq, .int .i64 g.start] : List Value)[j]? = some u → w.cell? ⟨bm, j, none⟩ = some u) (hrg : g.rd w a) (hr : Rd (kTr fDv) w B d.kids) (hd : d.All (dvOk g)) (hcn : d.cnt ≤ 1099511627776) (ih : ∀ t' ∈ d.kids, AllOk g t') : Calls Try.prog 44 #[.pointer (some ⟨bm, 0, none⟩), .agg #[.int .i64 d.x.prod, .int .i64 d.x.tok, .slice B d.kids.length k]] w fun e w' => ∃ v, e = .returned v ∧ v = .bool true ∧ Holds w [] w' := by
  obtain ⟨hd0, hds⟩ := (Tr.All_eq d).1 hd
  have hcnt := Tr.cnt_eq d
  have hkl := Tr.cnts_len d.kids
  refine calls_of Try.func44 rfl Try.ntmps44 rfl ?_
  have H := Holds.start w
  refine wcR ?_
  refine wl_box (cs := [_, _, _]) H rfl rfl rfl ?_
  intro b3 w1 hb3 H2
  refine wA ?_
  refine wl_nil ?_
  refine wc_seq ?_
  refine wcR ?_
  refine wV (v_fb (o2 := 0) fa50_0 rfl rfl) ?_
  refine wV (v_load one3 rfl (H2.at (by repeat constructor) rfl)) ?_
  refine wV (v_lss rfl rfl) ?_
  refine wl_nil ?_
  refine wc_cond rfl (fun c0 => ?_) (fun c0 => ?_)
  ·have c0p := of_decide_eq_true c0
   refine wcR ?_
   refine wA ?_
   refine wl_nil ?_
   refine wc_ret ?_
   exact ⟨_, res1 rfl rfl, rfl, H2.pm (Pm.nil _)⟩
  ·have c0p := of_decide_eq_false c0
   have hdr : (0 ≤ d.x.prod ∧ d.x.prod < g.prods.length) ∧ d.kids.length = (g.prods.getD d.x.prod.toNat pr0).right.length := hd0.elim (fun h => absurd h c0p) (fun h => h)
   refine wc_skip ?_
   refine wc_seq ?_
   refine wc_seq ?_
   refine wc_tree [0, 1, 2, 3, 4, 5, 6, 7, 8, 9, 10, 11, 12, 13, 14, 15, 16, 17, 18, 19, 20, 22] (fun W => Holds w [Blk b3 50 [.int .i64 d.x.prod, .int .i64 d.x.tok, .slice B d.kids.length k]] W) mixed ?_
   have Hd := H2.drew
   have HSd : Holds w [Blk b3 50 [.int .i64 d.x.prod, .int .i64 d.x.tok, .slice B d.kids.length k]] _ := Hd.pm (by repeat constructor)
   refine wjV (k := 0) rfl HSd (fun W HW => v_move rfl) ?_
   refine wjV (k := 1) rfl HSd (fun W HW => v_nil rfl) ?_
   refine wjV (k := 2) rfl HSd (fun W HW => v_fb (o2 := 0) fa115_0 rfl rfl) ?_
   refine wjV (k := 3) rfl HSd (fun W HW => v_fb (o2 := 3) fa44_3 rfl rfl) ?_
   refine wjV (k := 4) rfl HSd (fun W HW => v_load one42 rfl (HW.cell (hm 3 _ rfl))) ?_
   refine wjV (k := 5) rfl HSd (fun W HW => v_fb (o2 := 0) fa50_0 rfl rfl) ?_
   refine wjV (k := 6) rfl HSd (fun W HW => v_load one3 rfl (HW.at (by repeat constructor) rfl)) ?_
   refine wjV (k := 7) rfl HSd (fun W HW => v_idx Try.underlying42 sz73 hrg.q.ad rfl rfl (by omega) (by omega)) ?_
   refine wjV (k := 8) rfl HSd (fun W HW => v_fp fa73_3 rfl) ?_
   obtain ⟨R18_, c18_, B18_, k18_, hc18_, hl18_, hR18_, hB18_⟩ := hrg.q.atPrI (i := d.x.prod) (by omega) (by omega)
   refine wjV (k := 9) rfl HSd (fun W HW => v_loadN (cs := [.int .i64 (g.prods.getD d.x.prod.toNat pr0).act.x.kind, .int .i64 (g.prods.getD d.x.prod.toNat pr0).act.x.at_, .string (g.prods.getD d.x.prod.toNat pr0).act.x.name, .slice B18_ (g.prods.getD d.x.prod.toNat pr0).act.kids.length k18_]) agg69 rfl rfl (fun q_ u_ hu_ => HW.cell (by rw [add_add]; exact hc18_ (3 + q_) u_ (cut_eq (k := 4) rfl q_ u_ hu_)))) ?_
   refine wjV (k := 10) rfl HSd (fun W HW => v_move rfl) ?_
   refine wjV (k := 11) rfl HSd (fun W HW => v_nil rfl) ?_
   refine wjV (k := 12) rfl HSd (fun W HW => v_fb (o2 := 0) fa115_0 rfl rfl) ?_
   refine wjV (k := 13) rfl HSd (fun W HW => v_fb (o2 := 3) fa44_3 rfl rfl) ?_
   refine wjV (k := 14) rfl HSd (fun W HW => v_load one42 rfl (HW.cell (hm 3 _ rfl))) ?_
   refine wjV (k := 15) rfl HSd (fun W HW => v_fb (o2 := 0) fa50_0 rfl rfl) ?_
   refine wjV (k := 16) rfl HSd (fun W HW => v_load one3 rfl (HW.at (by repeat constructor) rfl)) ?_
   refine wjV (k := 17) rfl HSd (fun W HW => v_idx Try.underlying42 sz73 hrg.q.ad rfl rfl (by omega) (by omega)) ?_
   refine wjV (k := 18) rfl HSd (fun W HW => v_fp fa73_1 rfl) ?_
   obtain ⟨R28_, c28_, B28_, k28_, hc28_, hl28_, hR28_, hB28_⟩ := hrg.q.atPrI (i := d.x.prod) (by omega) (by omega)
   refine wjV (k := 19) rfl HSd (fun W HW => v_load one51 rfl (HW.cell (hc28_ 1 _ rfl))) ?_
   refine wjV (k := 20) rfl HSd (fun W HW => v_len Try.underlying51 rfl) ?_
   refine wj_t (k := 21) rfl (by kernel_rfl) ?_
   refine wl_call en71 rfl rfl (rplain_calls _ _ B18_ k18_ _ (hB18_.below Hd.old) (hact _ (by omega)).1 (by have := (hact d.x.prod.toNat (by omega)).2; omega)) ?_
   rintro _ w3 ⟨rfl, Hc⟩
   have H4 := Hd.call0 Hc
   have HS5 : Holds w [Blk b3 50 [.int .i64 d.x.prod, .int .i64 d.x.tok, .slice B d.kids.length k]] _ := H4.pm (by repeat constructor)
   refine wl_nil (tn ⟨fun _ => HS5, ?_⟩)
   refine wjV (k := 22) rfl HS5 (fun W HW => v_not rfl) ?_
   refine wj_done (by kernel_rfl) ?_
   refine wc_cond_f rfl ?_
   refine wc_skip ?_
   refine wc_seq ?_
   refine wcR ?_
   refine wA ?_
   refine wl_nil ?_
   refine wc_block ?_
   refine wc_loop (σ := Nat) (fun s => [(0, .pointer (some ⟨bm, 0, none⟩)), (3, .pointer (some ⟨b3, 0, none⟩)), (5, .int .i64 s)]) (fun s W => s ≤ d.kids.length ∧ Holds w [Blk b3 50 [.int .i64 d.x.prod, .int .i64 d.x.tok, .slice B d.kids.length k]] W) (fun s => d.kids.length - s) 0 (sc rfl (sc rfl (sc rfl (sn _)))) ⟨Nat.zero_le _, H4⟩ ?_
   rintro i W0 ⟨hi, H⟩
   refine wc_seq ?_
   refine wcR ?_
   refine wM ?_
   refine wV (v_fb (o2 := 2) fa50_2 rfl rfl) ?_
   refine wV (v_load one48 rfl (H.at (by repeat constructor) rfl)) ?_
   refine wV (v_len Try.underlying48 rfl) ?_
   refine wV (v_lss rfl rfl) ?_
   refine wl_nil ?_
   refine wc_cond rfl (fun c2 => ?_) (fun c2 => ?_)
   ·have c2p := of_decide_eq_true c2
    refine wc_skip ?_
    refine wc_seq ?_
    refine wc_block ?_
    refine wcR ?_
    refine wM ?_
    refine wV (v_fb (o2 := 2) fa50_2 rfl rfl) ?_
    refine wV (v_load one48 rfl (H.at (by repeat constructor) rfl)) ?_
    refine wM ?_
    refine wV (v_idx Try.underlying48 sz50 hr.ad rfl rfl (by omega) (by omega)) ?_
    obtain ⟨B44_, k44_, hc44_, hl44_, hr44_⟩ := hr.atTr dv0 (i := i) (by omega)
    refine wV (v_loadN (cs := [.int .i64 (d.kids.getD i dv0).x.prod, .int .i64 (d.kids.getD i dv0).x.tok, .slice B44_ (d.kids.getD i dv0).kids.length k44_]) agg50 rfl rfl (fun q_ u_ hu_ => H.cell (hc44_ q_ u_ hu_))) ?_
    refine wl_call en44 rfl rfl (ih _ (getD_mem (z := dv0) (show i < d.kids.length by omega)) a _ _ bm _ (fun j u hu => H.cell (hm j u hu)) (hrg.below H.old) (hr44_.below H.old) (Tr.Alls_at dv0 (by omega) hds) (by have h_ := Tr.cnts_succ dv0 d.kids i (by omega); have h2_ := Tr.cnts_take d.kids (i + 1); omega)) ?_
    rintro _ w7 ⟨rfl, Hc⟩
    have H8 := H.call0 Hc
    refine wV (v_not rfl) ?_
    refine wl_nil ?_
    refine wc_cond_f rfl ?_
    refine wc_skip ?_
    refine wc_region ?_
    refine wM ?_
    refine wV (v_addi rfl rfl (by omega)) ?_
    refine wA ?_
    refine wl_nil ?_
    exact ⟨i + 1, (sc rfl (sc rfl (sc rfl (sn _)))), ⟨by omega, H8.pm (by repeat constructor)⟩, by omega⟩
   ·have c2p := of_decide_eq_false c2
    refine wc_exit ?_
    refine wcR ?_
    refine wA ?_
    refine wl_nil ?_
    refine wc_ret ?_
    exact ⟨_, res1 rfl rfl, rfl, H.pm (Pm.nil _)⟩

theorem all_calls {g : Pl} (hact : ActsOk g) (hgq : g.prods.length ≤ 1099511627776) : ∀ d : Dv, AllOk g d := Tr.ind fun x kids ih => fun a w B bm k hm hrg hr hd hcn => all_step (d := .mk x kids) hact hgq hm hrg hr hd hcn ih

def RActOk (g : Pl) (ds : List Dv) (t : Ac) : Prop := ∀ (a : PlA) (w0 w : World) (L : List Ch) (B D : Option Addr) (bm k kd : Nat) (made why : Int) (hrg : g.rd w0 a) (hr : Rd (kTr fDv) w0 D ds) (ht : Rd (kTr fAc) w0 B t.kids) (hall : t.All (nodeOk ds.length)) (hcn : t.cnt ≤ 1099511627776) (hs : MSt made why) (HH : Holds w0 (Blk bm 115 [.slice a.k g.kinds.length a.ck, .slice a.p g.precs.length a.cp, .slice a.r g.rules.length a.cr, .slice a.q g.prods.length a.cq, .int .i64 g.start, .int .i64 made, .int .i64 why] :: L) w), Calls Try.prog 73 #[.pointer (some ⟨bm, 0, none⟩), .agg #[.int .i64 t.x.kind, .int .i64 t.x.at_, .string t.x.name, .slice B t.kids.length k], .slice D ds.length kd] w fun e w' => ∃ v, e = .returned v ∧ ∃ (t2 : Nd) (made2 why2 : Int) (A' : Option Addr) (c' : Nat), v = .agg #[.int .i64 t2.x.kind, .string t2.x.name, .int .i64 t2.x.tok, .slice A' t2.kids.length c'] ∧ (MRes made why (actV (ds.map (valD g)) t).cnt made2 why2 ∧ (why2 = 0 → t2 = (actV (ds.map (valD g)) t))) ∧ Holds w0 (NX (krTr fNd) w0 no t2 [.int .i64 t2.x.kind, .string t2.x.name, .int .i64 t2.x.tok, .slice A' t2.kids.length c'] :: Blk bm 115 [.slice a.k g.kinds.length a.ck, .slice a.p g.precs.length a.cp, .slice a.r g.rules.length a.cr, .slice a.q g.prods.length a.cq, .int .i64 g.start, .int .i64 made2, .int .i64 why2] :: L) w'
def RValOk (g : Pl) (d : Dv) : Prop := ∀ (a : PlA) (w0 w : World) (L : List Ch) (B : Option Addr) (bm k : Nat) (made why : Int) (hrg : g.rd w0 a) (hr : Rd (kTr fDv) w0 B d.kids) (hd : d.All (dvOk g)) (hcn : d.cnt ≤ 1099511627776) (hs : MSt made why) (HH : Holds w0 (Blk bm 115 [.slice a.k g.kinds.length a.ck, .slice a.p g.precs.length a.cp, .slice a.r g.rules.length a.cr, .slice a.q g.prods.length a.cq, .int .i64 g.start, .int .i64 made, .int .i64 why] :: L) w), Calls Try.prog 45 #[.pointer (some ⟨bm, 0, none⟩), .agg #[.int .i64 d.x.prod, .int .i64 d.x.tok, .slice B d.kids.length k]] w fun e w' => ∃ v, e = .returned v ∧ ∃ (t2 : Nd) (made2 why2 : Int) (A' : Option Addr) (c' : Nat), v = .agg #[.int .i64 t2.x.kind, .string t2.x.name, .int .i64 t2.x.tok, .slice A' t2.kids.length c'] ∧ (MRes made why (valD g d).cnt made2 why2 ∧ (why2 = 0 → t2 = (valD g d))) ∧ Holds w0 (NX (krTr fNd) w0 no t2 [.int .i64 t2.x.kind, .string t2.x.name, .int .i64 t2.x.tok, .slice A' t2.kids.length c'] :: Blk bm 115 [.slice a.k g.kinds.length a.ck, .slice a.p g.precs.length a.cp, .slice a.r g.rules.length a.cr, .slice a.q g.prods.length a.cq, .int .i64 g.start, .int .i64 made2, .int .i64 why2] :: L) w'

set_option maxHeartbeats 6400000 in
set_option maxRecDepth 100000 in
theorem ract_step {g : Pl} {a : PlA} {w0 w : World} {L : List Ch} {B D : Option Addr} {bm k kd : Nat} {made why : Int} {ds : List Dv} {t : Ac} (hrg : g.rd w0 a) (hr : Rd (kTr fDv) w0 D ds) (ht : Rd (kTr fAc) w0 B t.kids) (hall : t.All (nodeOk ds.length)) (hcn : t.cnt ≤ 1099511627776) (hs : MSt made why) (HH : Holds w0 (Blk bm 115 [.slice a.k g.kinds.length a.ck, .slice a.p g.precs.length a.cp, .slice a.r g.rules.length a.cr, .slice a.q g.prods.length a.cq, .int .i64 g.start, .int .i64 made, .int .i64 why] :: L) w) (hds : ∀ d ∈ ds, d.All (dvOk g) ∧ d.cnt ≤ 1099511627776) (ihd : ∀ d ∈ ds, RValOk g d) (ih : ∀ t' ∈ t.kids, RActOk g ds t') : Calls Try.prog 73 #[.pointer (some ⟨bm, 0, none⟩), .agg #[.int .i64 t.x.kind, .int .i64 t.x.at_, .string t.x.name, .slice B t.kids.length k], .slice D ds.length kd] w fun e w' => ∃ v, e = .returned v ∧ ∃ (t2 : Nd) (made2 why2 : Int) (A' : Option Addr) (c' : Nat), v = .agg #[.int .i64 t2.x.kind, .string t2.x.name, .int .i64 t2.x.tok, .slice A' t2.kids.length c'] ∧ (MRes made why (actV (ds.map (valD g)) t).cnt made2 why2 ∧ (why2 = 0 → t2 = (actV (ds.map (valD g)) t))) ∧ Holds w0 (NX (krTr fNd) w0 no t2 [.int .i64 t2.x.kind, .string t2.x.name, .int .i64 t2.x.tok, .slice A' t2.kids.length c'] :: Blk bm 115 [.slice a.k g.kinds.length a.ck, .slice a.p g.precs.length a.cp, .slice a.r g.rules.length a.cr, .slice a.q g.prods.length a.cq, .int .i64 g.start, .int .i64 made2, .int .i64 why2] :: L) w' := by
  obtain ⟨hn, hks⟩ := (Tr.All_eq t).1 hall
  have hcnt := Tr.cnt_eq t
  have hkl := Tr.cnts_len t.kids
  have hs0 := hs.1
  refine calls_of Try.func73 rfl Try.ntmps73 rfl ?_
  have H := HH
  refine wcR ?_
  refine wl_box (cs := [_, _, _, _]) H rfl rfl rfl ?_
  intro b4 w1 hb4 H2
  refine wl_alloc (cs := [.int .i64 0, .string ⟨#[]⟩, .int .i64 0, .slice none 0 0]) H2 rfl zv24 rfl ?_
  intro b6 w3 hb6 H4
  refine wl_nil ?_
  refine wc_seq ?_
  refine wcR ?_
  refine wM ?_
  refine wV (v_nil rfl) ?_
  refine wV (v_fb (o2 := 6) fa115_2 rfl rfl) ?_
  refine wV (v_load one3 rfl (H4.at (by repeat constructor) rfl)) ?_
  refine wV (v_neq rfl rfl) ?_
  refine wl_nil ?_
  refine wc_cond rfl (fun c0 => ?_) (fun c0 => ?_)
  ·have c0p := of_nd_t c0
   refine wcR ?_
   refine wV (v_bld ba24 rfl (by repeat constructor)) ?_
   refine wl_store (vs := [_, _, _, _]) H4 (by repeat constructor) sz24 rfl rfl rfl rfl rfl (by (repeat constructor)) ?_
   intro w5 H6 hw5
   refine wl_nil ?_
   refine wc_ret ?_
   first
     | (have q_ := hres
        have q2_ := c1p
        refine ⟨_, resc rfl rfl (run_loadVarN agg24 rfl (H6.ats (by repeat constructor))), t2, made2, why2, Ax, cx, rfl, ?_, H6.pm (by repeat (first | exact pm_refl _ | constructor | refine pm_skip ?_))⟩
        rw [actV_pick c1p, getD_map (valD g) dv0 nd0 (show t.x.at_.toNat < ds.length by omega)]
        exact hres)
     | exact ⟨_, resc rfl rfl (run_loadVarN agg24 rfl (H6.ats (by repeat constructor))), t2, made2, why2, Ax, cx, rfl, hres, H6.pm (by repeat (first | exact pm_refl _ | constructor | refine pm_skip ?_))⟩
     | exact ⟨_, resc rfl rfl (run_loadVarN agg24 rfl (H6.ats (by repeat constructor))), nd0, made, why, none, 0, rfl, ⟨MRes.stuck hs c0p, fun h => absurd h c0p⟩, (H6.nxLeaf (f := fNd) (T := no) ⟨0, ⟨#[]⟩, 0⟩).pm (by repeat (first | exact pm_refl _ | constructor | refine pm_skip ?_))⟩
  ·have c0p := of_nd_f c0
   refine wc_skip ?_
   refine wc_seq ?_
   refine wcR ?_
   refine wV (v_fb (o2 := 0) fa69_0 rfl rfl) ?_
   refine wV (v_load one3 rfl (H4.at (by repeat constructor) rfl)) ?_
   refine wV (v_eql rfl rfl) ?_
   refine wl_nil ?_
   refine wc_cond rfl (fun c1 => ?_) (fun c1 => ?_)
   ·have c1p := of_decide_eq_true c1
    refine wcR ?_
    refine wM ?_
    refine wM ?_
    refine wV (v_fb (o2 := 1) fa69_1 rfl rfl) ?_
    refine wV (v_load one3 rfl (H4.at (by repeat constructor) rfl)) ?_
    have hat : 0 ≤ t.x.at_ ∧ t.x.at_ < ds.length := by unfold nodeOk at hn; omega
    refine wV (v_idx Try.underlying48 sz50 hr.ad rfl rfl hat.1 hat.2) ?_
    have hat : 0 ≤ t.x.at_ ∧ t.x.at_ < ds.length := by unfold nodeOk at hn; omega
    obtain ⟨B23_, k23_, hc23_, hl23_, hr23_⟩ := hr.atTrI dv0 hat.1 hat.2
    refine wV (v_loadN (cs := [.int .i64 (ds.getD t.x.at_.toNat dv0).x.prod, .int .i64 (ds.getD t.x.at_.toNat dv0).x.tok, .slice B23_ (ds.getD t.x.at_.toNat dv0).kids.length k23_]) agg50 rfl rfl (fun q_ u_ hu_ => H4.cell (hc23_ q_ u_ hu_))) ?_
    refine wl_call en45 rfl rfl (ihd _ (getD_mem (z := dv0) (show t.x.at_.toNat < ds.length by omega)) a w0 _ _ B23_ bm k23_ made why hrg hr23_ (hds _ (getD_mem (z := dv0) (show t.x.at_.toNat < ds.length by omega))).1 (hds _ (getD_mem (z := dv0) (show t.x.at_.toNat < ds.length by omega))).2 hs (H4.turn (A := Blk bm 115 [.slice a.k g.kinds.length a.ck, .slice a.p g.precs.length a.cp, .slice a.r g.rules.length a.cr, .slice a.q g.prods.length a.cq, .int .i64 g.start, .int .i64 made, .int .i64 why]) (by repeat constructor))) ?_
    rintro _ w9 ⟨t2, made2, why2, Ax, cx, rfl, hres, Hc⟩
    refine wl_store (vs := [_, _, _, _]) Hc (by repeat constructor) sz24 rfl rfl rfl rfl rfl (by (repeat constructor)) ?_
    intro w10 H11 hw10
    refine wl_nil ?_
    refine wc_ret ?_
    first
      | (have q_ := hres
         have q2_ := c1p
         refine ⟨_, resc rfl rfl (run_loadVarN agg24 rfl (H11.ats (by repeat constructor))), t2, made2, why2, Ax, cx, rfl, ?_, H11.pm (by repeat (first | exact pm_refl _ | constructor | refine pm_skip ?_))⟩
         rw [actV_pick c1p, getD_map (valD g) dv0 nd0 (show t.x.at_.toNat < ds.length by omega)]
         exact hres)
      | exact ⟨_, resc rfl rfl (run_loadVarN agg24 rfl (H11.ats (by repeat constructor))), t2, made2, why2, Ax, cx, rfl, hres, H11.pm (by repeat (first | exact pm_refl _ | constructor | refine pm_skip ?_))⟩
      | exact ⟨_, resc rfl rfl (run_loadVarN agg24 rfl (H11.ats (by repeat constructor))), nd0, made, why, none, 0, rfl, ⟨MRes.stuck hs c0p, fun h => absurd h c0p⟩, (H11.nxLeaf (f := fNd) (T := no) ⟨0, ⟨#[]⟩, 0⟩).pm (by repeat (first | exact pm_refl _ | constructor | refine pm_skip ?_))⟩
   ·have c1p := of_decide_eq_false c1
    refine wc_skip ?_
    refine wcR ?_
    refine wM ?_
    refine wl_call en72 rfl rfl (made_calls hs0 (H4.turn (A := Blk bm 115 [.slice a.k g.kinds.length a.ck, .slice a.p g.precs.length a.cp, .slice a.r g.rules.length a.cr, .slice a.q g.prods.length a.cq, .int .i64 g.start, .int .i64 made, .int .i64 why]) (by repeat constructor))) ?_
    rintro _ w12 ⟨why1, hw1, Hc⟩
    have hr1 := MRes.one hs c0p hw1
    refine wl_nil ?_
    refine wcR ?_
    refine wV (v_bld ba24 rfl (by repeat constructor)) ?_
    refine wl_alloc (cs := [.int .i64 0, .string ⟨#[]⟩, .int .i64 0, .slice none 0 0]) Hc rfl zv24 rfl ?_
    intro b7 w13 hb7 H14
    refine wl_store (vs := [_, _, _, _]) H14 (by repeat constructor) sz24 rfl rfl rfl rfl rfl (by (repeat constructor)) ?_
    intro w15 H16 hw15
    refine wl_nil ?_
    refine wc_cut (σ := Nd × Int × Int × Option Addr × Nat) (fun s' => [(0, .pointer (some ⟨bm, 0, none⟩)), (2, .slice D ds.length kd), (4, .pointer (some ⟨b4, 0, none⟩)), (6, .pointer (some ⟨b6, 0, none⟩)), (7, .pointer (some ⟨b7, 0, none⟩))]) (fun s' W => (MRes made why (actV (ds.map (valD g)) t).cnt s'.2.1 s'.2.2.1 ∧ (s'.2.2.1 = 0 → s'.1 = (actV (ds.map (valD g)) t))) ∧ Holds w0 (Blk b7 24 [.int .i64 s'.1.x.kind, .string s'.1.x.name, .int .i64 s'.1.x.tok, .slice s'.2.2.2.1 s'.1.kids.length s'.2.2.2.2] :: NX (krTr fNd) w0 no s'.1 [.int .i64 s'.1.x.kind, .string s'.1.x.name, .int .i64 s'.1.x.tok, .slice s'.2.2.2.1 s'.1.kids.length s'.2.2.2.2] :: Blk bm 115 [.slice a.k g.kinds.length a.ck, .slice a.p g.precs.length a.cp, .slice a.r g.rules.length a.cr, .slice a.q g.prods.length a.cq, .int .i64 g.start, .int .i64 s'.2.1, .int .i64 s'.2.2.1] :: Blk b6 24 [.int .i64 0, .string ⟨#[]⟩, .int .i64 0, .slice none 0 0] :: L) W) ?_ ?_
    ·refine wcR ?_
     refine wV (v_fb (o2 := 0) fa69_0 rfl rfl) ?_
     refine wV (v_load one3 rfl (H16.at (by repeat constructor) rfl)) ?_
     refine wl_nil ?_
     refine wc_block ?_
     refine wcR ?_
     refine wV (v_eql rfl rfl) ?_
     refine wA ?_
     refine wl_nil ?_
     refine wc_cond rfl (fun c2 => ?_) (fun c2 => ?_)
     ·have c2p := of_decide_eq_true c2
      refine wc_region ?_
      refine wV (v_fb (o2 := 2) fa69_2 rfl rfl) ?_
      refine wV (v_load one9 rfl (H16.at (by repeat constructor) rfl)) ?_
      refine wV (v_bld ba24 rfl (by repeat constructor)) ?_
      refine wl_store (vs := [_, _, _, _]) H16 (by repeat constructor) sz24 rfl rfl rfl rfl rfl (by (repeat constructor)) ?_
      intro w17 H18 hw17
      refine wl_nil ?_
      first
        | (have q_ := ts
           rw [List.take_of_length_le (by omega)] at hp hq
           rw [show t.kids.length = ts.length by omega] at *
           exact ⟨(.mk ⟨3, t.x.name, 0⟩ ts, m1, y1, A5, cz), (sc rfl (sc rfl (sc rfl (sc rfl (sc rfl (sn _)))))), ⟨⟨by rw [actV_node c3p, Tr.cnt_eq]; exact hp, fun h => by rw [actV_node c3p]; exact congrArg (Tr.mk _) (hq h)⟩, ((H18.turn (A := FRow (krTr fNd) w0 no 24 (.slice A5 ts.length cz) ts) (by repeat constructor)).frzTr ⟨3, t.x.name, 0⟩).pm (by repeat (first | exact pm_refl _ | constructor | refine pm_skip ?_))⟩⟩)
        | exact ⟨(.mk ⟨2, t.x.name, 0⟩ [], made + 1, why1, none, 0), (sc rfl (sc rfl (sc rfl (sc rfl (sc rfl (sn _)))))), ⟨⟨by rw [actV_text c2p]; exact hr1, fun _ => (actV_text c2p).symm⟩, (H18.nxLeaf (f := fNd) (T := no) ⟨2, t.x.name, 0⟩).pm (by repeat (first | exact pm_refl _ | constructor | refine pm_skip ?_))⟩⟩
        | exact ⟨(nd0, made + 1, why1, none, 0), (sc rfl (sc rfl (sc rfl (sc rfl (sc rfl (sn _)))))), ⟨⟨by rw [actV_none c1p c3p c2p]; exact hr1, fun _ => (actV_none c1p c3p c2p).symm⟩, (H18.nxLeaf (f := fNd) (T := no) ⟨0, ⟨#[]⟩, 0⟩).pm (by repeat (first | exact pm_refl _ | constructor | refine pm_skip ?_))⟩⟩
     ·have c2p := of_decide_eq_false c2
      refine wcR ?_
      refine wV (v_eql rfl rfl) ?_
      refine wA ?_
      refine wl_nil ?_
      refine wc_cond rfl (fun c3 => ?_) (fun c3 => ?_)
      ·have c3p := of_decide_eq_true c3
       refine wcR ?_
       refine wV (v_fb (o2 := 2) fa69_2 rfl rfl) ?_
       refine wV (v_load one9 rfl (H16.at (by repeat constructor) rfl)) ?_
       refine wV (v_bld ba24 rfl (by repeat constructor)) ?_
       refine wl_store (vs := [_, _, _, _]) H16 (by repeat constructor) sz24 rfl rfl rfl rfl rfl (by (repeat constructor)) ?_
       intro w19 H20 hw19
       refine wl_nil ?_
       refine wcR ?_
       refine wA ?_
       refine wl_nil ?_
       refine wc_block ?_
       refine wc_loop (σ := Nat × List Nd × Int × Int × Option Addr × Nat) (fun s' => [(0, .pointer (some ⟨bm, 0, none⟩)), (2, .slice D ds.length kd), (4, .pointer (some ⟨b4, 0, none⟩)), (6, .pointer (some ⟨b6, 0, none⟩)), (7, .pointer (some ⟨b7, 0, none⟩)), (8, .int .i64 s'.1)]) (fun s' W => ((s'.1 ≤ t.kids.length ∧ s'.2.1.length = s'.1) ∧ MRes made why (1 + Tr.cnts ((t.kids.take s'.1).map (actV (ds.map (valD g))))) s'.2.2.1 s'.2.2.2.1 ∧ (s'.2.2.2.1 = 0 → s'.2.1 = (t.kids.take s'.1).map (actV (ds.map (valD g))))) ∧ Holds w0 (Blk b7 24 [.int .i64 3, .string t.x.name, .int .i64 0, .slice s'.2.2.2.2.1 s'.2.1.length s'.2.2.2.2.2] :: FRow (krTr fNd) w0 no 24 (.slice s'.2.2.2.2.1 s'.2.1.length s'.2.2.2.2.2) s'.2.1 :: Blk bm 115 [.slice a.k g.kinds.length a.ck, .slice a.p g.precs.length a.cp, .slice a.r g.rules.length a.cr, .slice a.q g.prods.length a.cq, .int .i64 g.start, .int .i64 s'.2.2.1, .int .i64 s'.2.2.2.1] :: Blk b6 24 [.int .i64 0, .string ⟨#[]⟩, .int .i64 0, .slice none 0 0] :: Blk b4 69 [.int .i64 t.x.kind, .int .i64 t.x.at_, .string t.x.name, .slice B t.kids.length k] :: L) W) (fun s' => t.kids.length - s'.1) (0, [], made + 1, why1, none, 0) (sc rfl (sc rfl (sc rfl (sc rfl (sc rfl (sc rfl (sn _))))))) ⟨⟨⟨Nat.zero_le _, rfl⟩, hr1, fun _ => rfl⟩, (H20.frNil (krTr fNd) w0 no 24).pm (by repeat (first | exact pm_refl _ | constructor | refine pm_skip ?_))⟩ ?_
       rintro ⟨i, ts, m1, y1, A5, cz⟩ W0 ⟨⟨⟨hi, hl⟩, hp, hq⟩, H⟩
       dsimp only at hi hl hp hq H ⊢
       refine wc_seq ?_
       refine wcR ?_
       refine wM ?_
       refine wV (v_fb (o2 := 3) fa69_3 rfl rfl) ?_
       refine wV (v_load one67 rfl (H.at (by repeat constructor) rfl)) ?_
       refine wV (v_len Try.underlying67 rfl) ?_
       refine wV (v_lss rfl rfl) ?_
       refine wl_nil ?_
       refine wc_cond rfl (fun c4 => ?_) (fun c4 => ?_)
       ·have c4p := of_decide_eq_true c4
        refine wc_skip ?_
        refine wc_seq ?_
        refine wc_block ?_
        refine wc_tree [0, 1, 2, 3, 4, 5, 6, 7, 8] (fun W => Holds w0 (Blk b7 24 [.int .i64 3, .string t.x.name, .int .i64 0, .slice A5 ts.length cz] :: Blk b4 69 [.int .i64 t.x.kind, .int .i64 t.x.at_, .string t.x.name, .slice B t.kids.length k] :: L) W) mixed ?_
        have Hd := H.drew
        have HSd : Holds w0 (Blk b7 24 [.int .i64 3, .string t.x.name, .int .i64 0, .slice A5 ts.length cz] :: Blk b4 69 [.int .i64 t.x.kind, .int .i64 t.x.at_, .string t.x.name, .slice B t.kids.length k] :: L) _ := Hd.pm (by repeat (first | exact pm_refl _ | constructor | refine pm_skip ?_))
        refine wjV (k := 0) rfl HSd (fun W HW => v_fb (o2 := 3) fa24_3 rfl rfl) ?_
        refine wjV (k := 1) rfl HSd (fun W HW => v_load one22 rfl (HW.at (by repeat constructor) rfl)) ?_
        refine wjV (k := 2) rfl HSd (fun W HW => v_move rfl) ?_
        refine wjV (k := 3) rfl HSd (fun W HW => v_fb (o2 := 3) fa69_3 rfl rfl) ?_
        refine wjV (k := 4) rfl HSd (fun W HW => v_load one67 rfl (HW.at (by repeat constructor) rfl)) ?_
        refine wjV (k := 5) rfl HSd (fun W HW => v_move rfl) ?_
        refine wjV (k := 6) rfl HSd (fun W HW => v_idx Try.underlying67 sz69 ht.ad rfl rfl (by omega) (by omega)) ?_
        obtain ⟨B54_, k54_, hc54_, hl54_, hr54_⟩ := ht.atTr ac0 (i := i) (by omega)
        refine wjV (k := 7) rfl HSd (fun W HW => v_loadN (cs := [.int .i64 (t.kids.getD i ac0).x.kind, .int .i64 (t.kids.getD i ac0).x.at_, .string (t.kids.getD i ac0).x.name, .slice B54_ (t.kids.getD i ac0).kids.length k54_]) agg69 rfl rfl (fun q_ u_ hu_ => HW.cell (hc54_ q_ u_ hu_))) ?_
        refine wjV (k := 8) rfl HSd (fun W HW => v_move rfl) ?_
        refine wj_t (k := 9) rfl (by kernel_rfl) ?_
        refine wl_call en73 rfl rfl (ih _ (getD_mem (z := ac0) (show i < t.kids.length by omega)) a w0 _ _ B54_ D bm k54_ kd m1 y1 hrg hr hr54_ (Tr.Alls_at ac0 (by omega) hks) (by have h_ := Tr.cnts_succ ac0 t.kids i (by omega); have h2_ := Tr.cnts_take t.kids (i + 1); omega) hp.1 (Hd.turn (A := Blk bm 115 [.slice a.k g.kinds.length a.ck, .slice a.p g.precs.length a.cp, .slice a.r g.rules.length a.cr, .slice a.q g.prods.length a.cq, .int .i64 g.start, .int .i64 m1, .int .i64 y1]) (by repeat constructor))) ?_
        rintro _ w21 ⟨t2, made2, why2, Ax, cx, rfl, hres, Hc⟩
        have HS22 : Holds w0 (Blk b7 24 [.int .i64 3, .string t.x.name, .int .i64 0, .slice A5 ts.length cz] :: Blk b4 69 [.int .i64 t.x.kind, .int .i64 t.x.at_, .string t.x.name, .slice B t.kids.length k] :: L) _ := Hc.pm (by repeat (first | exact pm_refl _ | constructor | refine pm_skip ?_))
        refine wl_nil (tn ⟨fun _ => HS22, ?_⟩)
        refine wj_t (k := 10) rfl (by kernel_rfl) ?_
        refine wl_slit (v := .agg #[.int .i64 0, .string ⟨#[]⟩, .int .i64 0, .slice none 0 0]) (z := [.int .i64 0, .string ⟨#[]⟩, .int .i64 0, .slice none 0 0]) (cs := [.int .i64 t2.x.kind, .string t2.x.name, .int .i64 t2.x.tok, .slice Ax t2.kids.length cx]) (sz := 4) Hc rfl Try.underlying22 sz24 zv24 (by decide) (by decide) (by kernel_rfl) rfl (by repeat constructor) ?_
        intro b57 w23 hb57 H23 hs23
        have HS24 : Holds w0 (Blk b7 24 [.int .i64 3, .string t.x.name, .int .i64 0, .slice A5 ts.length cz] :: Blk b4 69 [.int .i64 t.x.kind, .int .i64 t.x.at_, .string t.x.name, .slice B t.kids.length k] :: L) _ := H23.pm (by repeat (first | exact pm_refl _ | constructor | refine pm_skip ?_))
        refine wl_nil (tn ⟨fun _ => HS24, ?_⟩)
        refine wj_t (k := 11) rfl (by kernel_rfl) ?_
        refine wl_appF (cs := [.int .i64 t2.x.kind, .string t2.x.name, .int .i64 t2.x.tok, .slice Ax t2.kids.length cx]) (x' := t2) H23 (by repeat constructor) (by repeat constructor) (H23.ats (by repeat constructor)) rfl Try.underlying22 info24 rfl (by decide) rfl rfl (by omega) (by decide) ?_
        intro A58 c58 w25 H25 hs25
        refine wl_nil (tn ⟨fun hlt => absurd hlt (by rw [show allH _ _ _ = true by kernel_rfl]; simp), ?_⟩)
        refine wj_t (k := 12) rfl (by kernel_rfl) ?_
        refine wV (v_fb (o2 := 3) fa24_3 rfl rfl) ?_
        refine wl_nil (tn ⟨fun hlt => absurd hlt (by rw [show allH _ _ _ = true by kernel_rfl]; simp), ?_⟩)
        refine wj_t (k := 13) rfl (by kernel_rfl) ?_
        refine wl_store (vs := [_]) H25 (by repeat constructor) sz22 rfl rfl rfl rfl rfl (by (repeat constructor)) ?_
        intro w28 H29 hw28
        refine wl_nil (tn ⟨fun hlt => absurd hlt (by rw [show allH _ _ _ = true by kernel_rfl]; simp), ?_⟩)
        refine wj_done (by kernel_rfl) ?_
        refine wc_region ?_
        refine wM ?_
        refine wV (v_addi rfl rfl (by omega)) ?_
        refine wA ?_
        refine wl_nil ?_
        have hsc := map_succ (actV (ds.map (valD g))) ac0 (show i < t.kids.length by omega)
        exact ⟨(i + 1, ts ++ [t2], made2, why2, A58, c58), (sc rfl (sc rfl (sc rfl (sc rfl (sc rfl (sc rfl (sn _))))))), ⟨⟨⟨by dsimp only; omega, by rw [List.length_append, hl]; rfl⟩, by dsimp only; rw [hsc, cnts_app, ← Nat.add_assoc]; exact hp.cat hres.1, fun h => by dsimp only; rw [hsc, hq (hres.1.zero h), hres.2 h]⟩, H29.pm (by repeat (first | exact pm_refl _ | constructor | refine pm_skip ?_))⟩, by dsimp only; omega⟩
       ·have c4p := of_decide_eq_false c4
        refine wc_exit ?_
        first
          | (have q_ := ts
             rw [List.take_of_length_le (by omega)] at hp hq
             rw [show t.kids.length = ts.length by omega] at *
             exact ⟨(.mk ⟨3, t.x.name, 0⟩ ts, m1, y1, A5, cz), (sc rfl (sc rfl (sc rfl (sc rfl (sc rfl (sn _)))))), ⟨⟨by rw [actV_node c3p, Tr.cnt_eq]; exact hp, fun h => by rw [actV_node c3p]; exact congrArg (Tr.mk _) (hq h)⟩, ((H.turn (A := FRow (krTr fNd) w0 no 24 (.slice A5 ts.length cz) ts) (by repeat constructor)).frzTr ⟨3, t.x.name, 0⟩).pm (by repeat (first | exact pm_refl _ | constructor | refine pm_skip ?_))⟩⟩)
          | exact ⟨(.mk ⟨2, t.x.name, 0⟩ [], made + 1, why1, none, 0), (sc rfl (sc rfl (sc rfl (sc rfl (sc rfl (sn _)))))), ⟨⟨by rw [actV_text c2p]; exact hr1, fun _ => (actV_text c2p).symm⟩, (H.nxLeaf (f := fNd) (T := no) ⟨2, t.x.name, 0⟩).pm (by repeat (first | exact pm_refl _ | constructor | refine pm_skip ?_))⟩⟩
          | exact ⟨(nd0, made + 1, why1, none, 0), (sc rfl (sc rfl (sc rfl (sc rfl (sc rfl (sn _)))))), ⟨⟨by rw [actV_none c1p c3p c2p]; exact hr1, fun _ => (actV_none c1p c3p c2p).symm⟩, (H.nxLeaf (f := fNd) (T := no) ⟨0, ⟨#[]⟩, 0⟩).pm (by repeat (first | exact pm_refl _ | constructor | refine pm_skip ?_))⟩⟩
      ·have c3p := of_decide_eq_false c3
       refine wc_skip ?_
       first
         | (have q_ := ts
            rw [List.take_of_length_le (by omega)] at hp hq
            rw [show t.kids.length = ts.length by omega] at *
            exact ⟨(.mk ⟨3, t.x.name, 0⟩ ts, m1, y1, A5, cz), (sc rfl (sc rfl (sc rfl (sc rfl (sc rfl (sn _)))))), ⟨⟨by rw [actV_node c3p, Tr.cnt_eq]; exact hp, fun h => by rw [actV_node c3p]; exact congrArg (Tr.mk _) (hq h)⟩, ((H16.turn (A := FRow (krTr fNd) w0 no 24 (.slice A5 ts.length cz) ts) (by repeat constructor)).frzTr ⟨3, t.x.name, 0⟩).pm (by repeat (first | exact pm_refl _ | constructor | refine pm_skip ?_))⟩⟩)
         | exact ⟨(.mk ⟨2, t.x.name, 0⟩ [], made + 1, why1, none, 0), (sc rfl (sc rfl (sc rfl (sc rfl (sc rfl (sn _)))))), ⟨⟨by rw [actV_text c2p]; exact hr1, fun _ => (actV_text c2p).symm⟩, (H16.nxLeaf (f := fNd) (T := no) ⟨2, t.x.name, 0⟩).pm (by repeat (first | exact pm_refl _ | constructor | refine pm_skip ?_))⟩⟩
         | exact ⟨(nd0, made + 1, why1, none, 0), (sc rfl (sc rfl (sc rfl (sc rfl (sc rfl (sn _)))))), ⟨⟨by rw [actV_none c1p c3p c2p]; exact hr1, fun _ => (actV_none c1p c3p c2p).symm⟩, (H16.nxLeaf (f := fNd) (T := no) ⟨0, ⟨#[]⟩, 0⟩).pm (by repeat (first | exact pm_refl _ | constructor | refine pm_skip ?_))⟩⟩
    ·rintro ⟨t2, made2, why2, Ax, cx⟩ Wm ⟨hres, H⟩
     dsimp only at hres H ⊢
     refine wcR ?_
     refine wV (v_loadN agg24 rfl rfl (H.ats (by repeat constructor))) ?_
     refine wl_store (vs := [_, _, _, _]) H (by repeat constructor) sz24 rfl rfl rfl rfl rfl (by (repeat constructor)) ?_
     intro w31 H32 hw31
     refine wl_nil ?_
     refine wc_ret ?_
     first
       | (have q_ := hres
          have q2_ := c1p
          refine ⟨_, resc rfl rfl (run_loadVarN agg24 rfl (H32.ats (by repeat constructor))), t2, made2, why2, Ax, cx, rfl, ?_, H32.pm (by repeat (first | exact pm_refl _ | constructor | refine pm_skip ?_))⟩
          rw [actV_pick c1p, getD_map (valD g) dv0 nd0 (show t.x.at_.toNat < ds.length by omega)]
          exact hres)
       | exact ⟨_, resc rfl rfl (run_loadVarN agg24 rfl (H32.ats (by repeat constructor))), t2, made2, why2, Ax, cx, rfl, hres, H32.pm (by repeat (first | exact pm_refl _ | constructor | refine pm_skip ?_))⟩
       | exact ⟨_, resc rfl rfl (run_loadVarN agg24 rfl (H32.ats (by repeat constructor))), nd0, made, why, none, 0, rfl, ⟨MRes.stuck hs c0p, fun h => absurd h c0p⟩, (H32.nxLeaf (f := fNd) (T := no) ⟨0, ⟨#[]⟩, 0⟩).pm (by repeat (first | exact pm_refl _ | constructor | refine pm_skip ?_))⟩

theorem ract_calls {g : Pl} {ds : List Dv} (hds : ∀ d ∈ ds, d.All (dvOk g) ∧ d.cnt ≤ 1099511627776) (ihd : ∀ d ∈ ds, RValOk g d) : ∀ t : Ac, RActOk g ds t := Tr.ind fun x kids ih => fun a w0 w L B D bm k kd made why hrg hr ht hall hcn hs HH => ract_step (t := .mk x kids) hrg hr ht hall hcn hs HH hds ihd ih

set_option maxHeartbeats 6400000 in
set_option maxRecDepth 100000 in
theorem rval_step {g : Pl} {a : PlA} {w0 w : World} {L : List Ch} {B : Option Addr} {bm k : Nat} {made why : Int} {d : Dv} (hact : ActsOk g) (hgq : g.prods.length ≤ 1099511627776) (hrg : g.rd w0 a) (hr : Rd (kTr fDv) w0 B d.kids) (hd : d.All (dvOk g)) (hcn : d.cnt ≤ 1099511627776) (hs : MSt made why) (HH : Holds w0 (Blk bm 115 [.slice a.k g.kinds.length a.ck, .slice a.p g.precs.length a.cp, .slice a.r g.rules.length a.cr, .slice a.q g.prods.length a.cq, .int .i64 g.start, .int .i64 made, .int .i64 why] :: L) w) (ih : ∀ t' ∈ d.kids, RValOk g t') : Calls Try.prog 45 #[.pointer (some ⟨bm, 0, none⟩), .agg #[.int .i64 d.x.prod, .int .i64 d.x.tok, .slice B d.kids.length k]] w fun e w' => ∃ v, e = .returned v ∧ ∃ (t2 : Nd) (made2 why2 : Int) (A' : Option Addr) (c' : Nat), v = .agg #[.int .i64 t2.x.kind, .string t2.x.name, .int .i64 t2.x.tok, .slice A' t2.kids.length c'] ∧ (MRes made why (valD g d).cnt made2 why2 ∧ (why2 = 0 → t2 = (valD g d))) ∧ Holds w0 (NX (krTr fNd) w0 no t2 [.int .i64 t2.x.kind, .string t2.x.name, .int .i64 t2.x.tok, .slice A' t2.kids.length c'] :: Blk bm 115 [.slice a.k g.kinds.length a.ck, .slice a.p g.precs.length a.cp, .slice a.r g.rules.length a.cr, .slice a.q g.prods.length a.cq, .int .i64 g.start, .int .i64 made2, .int .i64 why2] :: L) w' := by
  obtain ⟨hd0, hds⟩ := (Tr.All_eq d).1 hd
  have hcnt := Tr.cnt_eq d
  have hkl := Tr.cnts_len d.kids
  have hs0 := hs.1
  refine calls_of Try.func45 rfl Try.ntmps45 rfl ?_
  have H := HH
  refine wcR ?_
  refine wl_box (cs := [_, _, _]) H rfl rfl rfl ?_
  intro b3 w1 hb3 H2
  refine wl_alloc (cs := [.int .i64 0, .string ⟨#[]⟩, .int .i64 0, .slice none 0 0]) H2 rfl zv24 rfl ?_
  intro b4 w3 hb4 H4
  refine wl_nil ?_
  refine wc_seq ?_
  refine wcR ?_
  refine wM ?_
  refine wV (v_nil rfl) ?_
  refine wV (v_fb (o2 := 6) fa115_2 rfl rfl) ?_
  refine wV (v_load one3 rfl (H4.at (by repeat constructor) rfl)) ?_
  refine wV (v_neq rfl rfl) ?_
  refine wl_nil ?_
  refine wc_cond rfl (fun c0 => ?_) (fun c0 => ?_)
  ·have c0p := of_nd_t c0
   refine wcR ?_
   refine wV (v_bld ba24 rfl (by repeat constructor)) ?_
   refine wl_store (vs := [_, _, _, _]) H4 (by repeat constructor) sz24 rfl rfl rfl rfl rfl (by (repeat constructor)) ?_
   intro w5 H6 hw5
   refine wl_nil ?_
   refine wc_ret ?_
   first
     | (have q_ := hres
        refine ⟨_, resc rfl rfl (run_loadVarN agg24 rfl (H6.ats (by repeat constructor))), t2, made2, why2, Ax, cx, rfl, ?_, H6.pm (by repeat (first | exact pm_refl _ | constructor | refine pm_skip ?_))⟩
        rw [valD_node c1p]
        exact hres)
     | (have q_ := hr1
        refine ⟨_, resc rfl rfl (run_loadVarN agg24 rfl (H6.ats (by repeat constructor))), .mk ⟨1, ⟨#[]⟩, d.x.tok⟩ [], made + 1, why1, none, 0, rfl, ?_, (H6.nxLeaf (f := fNd) (T := no) ⟨1, ⟨#[]⟩, d.x.tok⟩).pm (by repeat (first | exact pm_refl _ | constructor | refine pm_skip ?_))⟩
        rw [valD_leaf c1p]
        exact ⟨hr1, fun _ => rfl⟩)
     | exact ⟨_, resc rfl rfl (run_loadVarN agg24 rfl (H6.ats (by repeat constructor))), nd0, made, why, none, 0, rfl, ⟨MRes.stuck hs c0p, fun h => absurd h c0p⟩, (H6.nxLeaf (f := fNd) (T := no) ⟨0, ⟨#[]⟩, 0⟩).pm (by repeat (first | exact pm_refl _ | constructor | refine pm_skip ?_))⟩
  ·have c0p := of_nd_f c0
   refine wc_skip ?_
   refine wc_seq ?_
   refine wcR ?_
   refine wV (v_fb (o2 := 0) fa50_0 rfl rfl) ?_
   refine wV (v_load one3 rfl (H4.at (by repeat constructor) rfl)) ?_
   refine wV (v_lss rfl rfl) ?_
   refine wl_nil ?_
   refine wc_cond rfl (fun c1 => ?_) (fun c1 => ?_)
   ·have c1p := of_decide_eq_true c1
    refine wcR ?_
    refine wM ?_
    refine wl_call en72 rfl rfl (made_calls hs0 (H4.turn (A := Blk bm 115 [.slice a.k g.kinds.length a.ck, .slice a.p g.precs.length a.cp, .slice a.r g.rules.length a.cr, .slice a.q g.prods.length a.cq, .int .i64 g.start, .int .i64 made, .int .i64 why]) (by repeat constructor))) ?_
    rintro _ w7 ⟨why1, hw1, Hc⟩
    have hr1 := MRes.one hs c0p hw1
    refine wl_nil ?_
    refine wcR ?_
    refine wV (v_fb (o2 := 1) fa50_1 rfl rfl) ?_
    refine wV (v_load one3 rfl (Hc.at (by repeat constructor) rfl)) ?_
    refine wV (v_bld ba24 rfl (by repeat constructor)) ?_
    refine wl_store (vs := [_, _, _, _]) Hc (by repeat constructor) sz24 rfl rfl rfl rfl rfl (by (repeat constructor)) ?_
    intro w8 H9 hw8
    refine wl_nil ?_
    refine wc_ret ?_
    first
      | (have q_ := hres
         refine ⟨_, resc rfl rfl (run_loadVarN agg24 rfl (H9.ats (by repeat constructor))), t2, made2, why2, Ax, cx, rfl, ?_, H9.pm (by repeat (first | exact pm_refl _ | constructor | refine pm_skip ?_))⟩
         rw [valD_node c1p]
         exact hres)
      | (have q_ := hr1
         refine ⟨_, resc rfl rfl (run_loadVarN agg24 rfl (H9.ats (by repeat constructor))), .mk ⟨1, ⟨#[]⟩, d.x.tok⟩ [], made + 1, why1, none, 0, rfl, ?_, (H9.nxLeaf (f := fNd) (T := no) ⟨1, ⟨#[]⟩, d.x.tok⟩).pm (by repeat (first | exact pm_refl _ | constructor | refine pm_skip ?_))⟩
         rw [valD_leaf c1p]
         exact ⟨hr1, fun _ => rfl⟩)
      | exact ⟨_, resc rfl rfl (run_loadVarN agg24 rfl (H9.ats (by repeat constructor))), nd0, made, why, none, 0, rfl, ⟨MRes.stuck hs c0p, fun h => absurd h c0p⟩, (H9.nxLeaf (f := fNd) (T := no) ⟨0, ⟨#[]⟩, 0⟩).pm (by repeat (first | exact pm_refl _ | constructor | refine pm_skip ?_))⟩
   ·have c1p := of_decide_eq_false c1
    have hdr : (0 ≤ d.x.prod ∧ d.x.prod < g.prods.length) ∧ d.kids.length = (g.prods.getD d.x.prod.toNat pr0).right.length := hd0.elim (fun h => absurd h c1p) (fun h => h)
    refine wc_skip ?_
    refine wc_seq ?_
    refine wc_tree [0, 1, 2, 3, 4, 5, 6, 7, 8, 9, 10, 11, 12] (fun W => Holds w0 (Blk b3 50 [.int .i64 d.x.prod, .int .i64 d.x.tok, .slice B d.kids.length k] :: Blk bm 115 [.slice a.k g.kinds.length a.ck, .slice a.p g.precs.length a.cp, .slice a.r g.rules.length a.cr, .slice a.q g.prods.length a.cq, .int .i64 g.start, .int .i64 made, .int .i64 why] :: L) W) mixed ?_
    have Hd := H4.drew
    have HSd : Holds w0 (Blk b3 50 [.int .i64 d.x.prod, .int .i64 d.x.tok, .slice B d.kids.length k] :: Blk bm 115 [.slice a.k g.kinds.length a.ck, .slice a.p g.precs.length a.cp, .slice a.r g.rules.length a.cr, .slice a.q g.prods.length a.cq, .int .i64 g.start, .int .i64 made, .int .i64 why] :: L) _ := Hd.pm (by repeat (first | exact pm_refl _ | constructor | refine pm_skip ?_))
    refine wjV (k := 0) rfl HSd (fun W HW => v_move rfl) ?_
    refine wjV (k := 1) rfl HSd (fun W HW => v_move rfl) ?_
    refine wjV (k := 2) rfl HSd (fun W HW => v_nil rfl) ?_
    refine wjV (k := 3) rfl HSd (fun W HW => v_fb (o2 := 0) fa115_0 rfl rfl) ?_
    refine wjV (k := 4) rfl HSd (fun W HW => v_fb (o2 := 3) fa44_3 rfl rfl) ?_
    refine wjV (k := 5) rfl HSd (fun W HW => v_load one42 rfl (HW.at (by repeat constructor) rfl)) ?_
    refine wjV (k := 6) rfl HSd (fun W HW => v_fb (o2 := 0) fa50_0 rfl rfl) ?_
    refine wjV (k := 7) rfl HSd (fun W HW => v_load one3 rfl (HW.at (by repeat constructor) rfl)) ?_
    refine wjV (k := 8) rfl HSd (fun W HW => v_idx Try.underlying42 sz73 hrg.q.ad rfl rfl (by omega) (by omega)) ?_
    refine wjV (k := 9) rfl HSd (fun W HW => v_fp fa73_3 rfl) ?_
    obtain ⟨R29_, c29_, B29_, k29_, hc29_, hl29_, hR29_, hB29_⟩ := hrg.q.atPrI (i := d.x.prod) (by omega) (by omega)
    refine wjV (k := 10) rfl HSd (fun W HW => v_loadN (cs := [.int .i64 (g.prods.getD d.x.prod.toNat pr0).act.x.kind, .int .i64 (g.prods.getD d.x.prod.toNat pr0).act.x.at_, .string (g.prods.getD d.x.prod.toNat pr0).act.x.name, .slice B29_ (g.prods.getD d.x.prod.toNat pr0).act.kids.length k29_]) agg69 rfl rfl (fun q_ u_ hu_ => HW.cell (by rw [add_add]; exact hc29_ (3 + q_) u_ (cut_eq (k := 4) rfl q_ u_ hu_)))) ?_
    refine wjV (k := 11) rfl HSd (fun W HW => v_fb (o2 := 2) fa50_2 rfl rfl) ?_
    refine wjV (k := 12) rfl HSd (fun W HW => v_load one48 rfl (HW.at (by repeat constructor) rfl)) ?_
    refine wj_t (k := 13) rfl (by kernel_rfl) ?_
    refine wl_call en73 rfl rfl (ract_calls (fun t' ht' => ⟨(Tr.Alls_iff _).1 hds t' ht', Nat.le_trans (cnt_mem ht') (by omega)⟩) ih (g.prods.getD d.x.prod.toNat pr0).act a w0 _ _ B29_ B bm k29_ k made why hrg hr hB29_ (by rw [hdr.2]; exact (hact _ (by omega)).1) (by have := (hact d.x.prod.toNat (by omega)).2; omega) hs (Hd.turn (A := Blk bm 115 [.slice a.k g.kinds.length a.ck, .slice a.p g.precs.length a.cp, .slice a.r g.rules.length a.cr, .slice a.q g.prods.length a.cq, .int .i64 g.start, .int .i64 made, .int .i64 why]) (by repeat constructor))) ?_
    rintro _ w10 ⟨t2, made2, why2, Ax, cx, rfl, hres, Hc⟩
    refine wl_nil (tn ⟨fun hlt => absurd hlt (by rw [show allH _ _ _ = true by kernel_rfl]; simp), ?_⟩)
    refine wj_t (k := 14) rfl (by kernel_rfl) ?_
    refine wl_store (vs := [_, _, _, _]) Hc (by repeat constructor) sz24 rfl rfl rfl rfl rfl (by (repeat constructor)) ?_
    intro w12 H13 hw12
    refine wl_nil (tn ⟨fun hlt => absurd hlt (by rw [show allH _ _ _ = true by kernel_rfl]; simp), ?_⟩)
    refine wj_done (by kernel_rfl) ?_
    refine wc_ret ?_
    first
      | (have q_ := hres
         refine ⟨_, resc rfl rfl (run_loadVarN agg24 rfl (H13.ats (by repeat constructor))), t2, made2, why2, Ax, cx, rfl, ?_, H13.pm (by repeat (first | exact pm_refl _ | constructor | refine pm_skip ?_))⟩
         rw [valD_node c1p]
         exact hres)
      | (have q_ := hr1
         refine ⟨_, resc rfl rfl (run_loadVarN agg24 rfl (H13.ats (by repeat constructor))), .mk ⟨1, ⟨#[]⟩, d.x.tok⟩ [], made + 1, why1, none, 0, rfl, ?_, (H13.nxLeaf (f := fNd) (T := no) ⟨1, ⟨#[]⟩, d.x.tok⟩).pm (by repeat (first | exact pm_refl _ | constructor | refine pm_skip ?_))⟩
         rw [valD_leaf c1p]
         exact ⟨hr1, fun _ => rfl⟩)
      | exact ⟨_, resc rfl rfl (run_loadVarN agg24 rfl (H13.ats (by repeat constructor))), nd0, made, why, none, 0, rfl, ⟨MRes.stuck hs c0p, fun h => absurd h c0p⟩, (H13.nxLeaf (f := fNd) (T := no) ⟨0, ⟨#[]⟩, 0⟩).pm (by repeat (first | exact pm_refl _ | constructor | refine pm_skip ?_))⟩

theorem rval_calls {g : Pl} (hact : ActsOk g) (hgq : g.prods.length ≤ 1099511627776) : ∀ d : Dv, RValOk g d := Tr.ind fun x kids ih => fun a w0 w L B bm k made why hrg hr hd hcn hs HH => rval_step (d := .mk x kids) hact hgq hrg hr hd hcn hs HH ih

set_option maxHeartbeats 6400000 in
set_option maxRecDepth 100000 in
theorem rvalue_calls {g : Pl} {a : PlA} {row : List Int} {w : World} {A B : Option Addr} {k cr : Nat} {d : Dv} (hg : g.ok) (hrg : g.rd w a) (hr : Rd (kTr fDv) w B d.kids) (hR : Rd (kInt .i64) w A row) (hl : row.length ≤ 1099511627776) (hcn : d.cnt ≤ 1099511627776) :
    Calls Try.prog 17 #[.agg #[.slice a.k g.kinds.length a.ck, .slice a.p g.precs.length a.cp, .slice a.r g.rules.length a.cr, .slice a.q g.prods.length a.cq, .int .i64 g.start], .agg #[.int .i64 d.x.prod, .int .i64 d.x.tok, .slice B d.kids.length k], .slice A row.length cr] w fun e w' => ∃ v, e = .returned v ∧ ∃ A' c', v = .tuple #[.agg #[.int .i64 (valR g d row).x.kind, .string (valR g d row).x.name, .int .i64 (valR g d row).x.tok, .slice A' (valR g d row).kids.length c'], .int .i64 (valE g d row)] ∧ Holds w [NX (krTr fNd) w no (valR g d row) [.int .i64 (valR g d row).x.kind, .string (valR g d row).x.name, .int .i64 (valR g d row).x.tok, .slice A' (valR g d row).kids.length c']] w' := by
  have hgk := hg.k
  have hgr := hg.r
  have hgq := hg.q
  refine calls_of Try.func17 rfl Try.ntmps17 rfl ?_
  have H := Holds.start w
  refine wcR ?_
  refine wl_box (cs := [_, _, _, _, _]) H rfl rfl rfl ?_
  intro b3 w1 hb3 H2
  refine wl_box (cs := [_, _, _]) H2 rfl rfl rfl ?_
  intro b4 w3 hb4 H4
  refine wl_alloc (cs := [.int .i64 0, .string ⟨#[]⟩, .int .i64 0, .slice none 0 0]) H4 rfl zv24 rfl ?_
  intro b6 w5 hb6 H6
  refine wA ?_
  refine wl_nil ?_
  refine wc_seq ?_
  refine wcR ?_
  refine wV (v_loadN agg44 rfl rfl (H6.ats (by repeat constructor))) ?_
  refine wl_call en42 rfl rfl (right_calls (hrg.below H6.old) hg) ?_
  rintro _ w7 ⟨rfl, Hc⟩
  have H8 := H6.call0 Hc
  refine wV (v_not rfl) ?_
  refine wl_nil ?_
  refine wc_cond rfl (fun c0 => ?_) (fun c0 => ?_)
  ·have c0p := of_n_t c0
   refine wcR ?_
   refine wV (v_bld ba24 rfl (by repeat constructor)) ?_
   refine wl_store (vs := [_, _, _, _]) H8 (by repeat constructor) sz24 rfl rfl rfl rfl rfl (by (repeat constructor)) ?_
   intro w9 H10 hw9
   refine wA ?_
   refine wl_nil ?_
   refine wc_ret ?_
   first
     | (have q_ := c3p
        obtain ⟨e1_, e2_⟩ := valE_many hD (show ¬ (valD g d).cnt ≤ 65536 from fun h_ => by have h2_ := hres.1.2.1 ⟨rfl, by omega⟩; omega)
        have e3_ : why2 = 213 := by (have h_ := hres.1.1.2; omega)
        subst e3_
        rw [e1_, e2_]
        exact ⟨_, resc2 rfl rfl (run_loadVarN agg24 rfl (H10.ats (by repeat constructor))) rfl, none, 0, rfl, (H10.nxLeaf (f := fNd) (T := no) ⟨0, ⟨#[]⟩, 0⟩).pm (by repeat constructor)⟩)
     | (have q_ := c3p
        obtain ⟨e1_, e2_⟩ := valE_ok hD (show (valD g d).cnt ≤ 65536 from Classical.byContradiction fun h_ => by have h2_ := hres.1.2.2 (fun h3_ => h_ (by omega)); omega)
        obtain rfl := hres.2 c3p
        rw [e1_, e2_]
        exact ⟨_, resc2 rfl rfl (run_loadVarN agg24 rfl (H10.ats (by repeat constructor))) rfl, Ax, cx, rfl, H10.pm (by repeat constructor)⟩)
     | (have q_ := hG
        obtain ⟨e1_, e2_⟩ := valE_none hG (of_ndec (of_n_t c1))
        rw [e1_, e2_]
        exact ⟨_, resc2 rfl rfl (run_loadVarN agg24 rfl (H10.ats (by repeat constructor))) rfl, none, 0, rfl, (H10.nxLeaf (f := fNd) (T := no) ⟨0, ⟨#[]⟩, 0⟩).pm (by repeat constructor)⟩)
     | (obtain ⟨e1_, e2_⟩ := valE_plain (d := d) (row := row) (of_ndec (of_n_t c0))
        rw [e1_, e2_]
        exact ⟨_, resc2 rfl rfl (run_loadVarN agg24 rfl (H10.ats (by repeat constructor))) rfl, none, 0, rfl, (H10.nxLeaf (f := fNd) (T := no) ⟨0, ⟨#[]⟩, 0⟩).pm (by repeat constructor)⟩)
  ·have c0p := of_n_f c0
   have hG : GOk g := of_dec (of_n_f c0)
   refine wc_skip ?_
   refine wc_seq ?_
   refine wcR ?_
   refine wV (v_loadN agg44 rfl rfl (H8.ats (by repeat constructor))) ?_
   refine wV (v_loadN agg50 rfl rfl (H8.ats (by repeat constructor))) ?_
   refine wM ?_
   refine wl_call en43 rfl rfl (rdcheck_calls hg (hrg.below H8.old) (hr.below H8.old) (hR.below H8.old) hl hcn) ?_
   rintro _ w11 ⟨rfl, Hc⟩
   have H12 := H8.call0 Hc
   refine wV (v_not rfl) ?_
   refine wl_nil ?_
   refine wc_cond rfl (fun c1 => ?_) (fun c1 => ?_)
   ·have c1p := of_n_t c1
    refine wcR ?_
    refine wV (v_bld ba24 rfl (by repeat constructor)) ?_
    refine wl_store (vs := [_, _, _, _]) H12 (by repeat constructor) sz24 rfl rfl rfl rfl rfl (by (repeat constructor)) ?_
    intro w13 H14 hw13
    refine wA ?_
    refine wl_nil ?_
    refine wc_ret ?_
    first
      | (have q_ := c3p
         obtain ⟨e1_, e2_⟩ := valE_many hD (show ¬ (valD g d).cnt ≤ 65536 from fun h_ => by have h2_ := hres.1.2.1 ⟨rfl, by omega⟩; omega)
         have e3_ : why2 = 213 := by (have h_ := hres.1.1.2; omega)
         subst e3_
         rw [e1_, e2_]
         exact ⟨_, resc2 rfl rfl (run_loadVarN agg24 rfl (H14.ats (by repeat constructor))) rfl, none, 0, rfl, (H14.nxLeaf (f := fNd) (T := no) ⟨0, ⟨#[]⟩, 0⟩).pm (by repeat constructor)⟩)
      | (have q_ := c3p
         obtain ⟨e1_, e2_⟩ := valE_ok hD (show (valD g d).cnt ≤ 65536 from Classical.byContradiction fun h_ => by have h2_ := hres.1.2.2 (fun h3_ => h_ (by omega)); omega)
         obtain rfl := hres.2 c3p
         rw [e1_, e2_]
         exact ⟨_, resc2 rfl rfl (run_loadVarN agg24 rfl (H14.ats (by repeat constructor))) rfl, Ax, cx, rfl, H14.pm (by repeat constructor)⟩)
      | (have q_ := hG
         obtain ⟨e1_, e2_⟩ := valE_none hG (of_ndec (of_n_t c1))
         rw [e1_, e2_]
         exact ⟨_, resc2 rfl rfl (run_loadVarN agg24 rfl (H14.ats (by repeat constructor))) rfl, none, 0, rfl, (H14.nxLeaf (f := fNd) (T := no) ⟨0, ⟨#[]⟩, 0⟩).pm (by repeat constructor)⟩)
      | (obtain ⟨e1_, e2_⟩ := valE_plain (d := d) (row := row) (of_ndec (of_n_t c0))
         rw [e1_, e2_]
         exact ⟨_, resc2 rfl rfl (run_loadVarN agg24 rfl (H14.ats (by repeat constructor))) rfl, none, 0, rfl, (H14.nxLeaf (f := fNd) (T := no) ⟨0, ⟨#[]⟩, 0⟩).pm (by repeat constructor)⟩)
   ·have c1p := of_n_f c1
    have hD : DrvOk g d row := of_dec (of_n_f c1)
    have hact := hG.acts
    refine wc_skip ?_
    refine wcR ?_
    refine wV (v_loadN agg44 rfl rfl (H12.ats (by repeat constructor))) ?_
    refine wV (v_bld ba115 rfl (by repeat constructor)) ?_
    refine wl_alloc (cs := [.slice none 0 0, .slice none 0 0, .slice none 0 0, .slice none 0 0, .int .i64 0, .int .i64 0, .int .i64 0]) H12 rfl zv115 rfl ?_
    intro b8 w15 hb8 H16
    refine wl_store (vs := [_, _, _, _, _, _, _]) H16 (by repeat constructor) sz115 rfl rfl rfl rfl rfl (by (repeat constructor)) ?_
    intro w17 H18 hw17
    refine wl_nil ?_
    refine wc_seq ?_
    refine wcR ?_
    refine wV (v_loadN agg50 rfl rfl (H18.ats (by repeat constructor))) ?_
    refine wl_call en44 rfl rfl (all_calls hact hgq d a _ B b8 k (by (have h_ := H18.atsN (b := b8) (off := 0) (k := 5) (cs' := [.slice a.k g.kinds.length a.ck, .slice a.p g.precs.length a.cp, .slice a.r g.rules.length a.cr, .slice a.q g.prods.length a.cq, .int .i64 g.start]) (by repeat constructor) rfl; intro j u hu; have h2_ := h_ j u hu; rwa [Addr.add_lit, Nat.zero_add] at h2_)) (hrg.below H18.old) (hr.below H18.old) hD.dv hcn) ?_
    rintro _ w19 ⟨rfl, Hc⟩
    have H20 := H18.call0 Hc
    refine wV (v_not rfl) ?_
    refine wl_nil ?_
    refine wc_cond_f rfl ?_
    refine wc_skip ?_
    refine wcR ?_
    refine wV (v_loadN agg50 rfl rfl (H20.ats (by repeat constructor))) ?_
    refine wl_call en45 rfl rfl (rval_calls hact hgq d a w _ _ B b8 k 0 0 hrg hr hD.dv hcn ⟨by omega, .inl ⟨rfl, by omega⟩⟩ (H20.turn (A := Blk b8 115 [.slice a.k g.kinds.length a.ck, .slice a.p g.precs.length a.cp, .slice a.r g.rules.length a.cr, .slice a.q g.prods.length a.cq, .int .i64 g.start, .int .i64 0, .int .i64 0]) (by repeat constructor))) ?_
    rintro _ w21 ⟨t2, made2, why2, Ax, cx, rfl, hres, Hc⟩
    refine wl_alloc (cs := [.int .i64 0, .string ⟨#[]⟩, .int .i64 0, .slice none 0 0]) Hc rfl zv24 rfl ?_
    intro b9 w22 hb9 H23
    refine wl_store (vs := [_, _, _, _]) H23 (by repeat constructor) sz24 rfl rfl rfl rfl rfl (by (repeat constructor)) ?_
    intro w24 H25 hw24
    refine wl_nil ?_
    refine wc_seq ?_
    refine wcR ?_
    refine wV (v_fb (o2 := 6) fa115_2 rfl rfl) ?_
    refine wV (v_load one3 rfl (H25.at (by repeat constructor) rfl)) ?_
    refine wV (v_neq rfl rfl) ?_
    refine wl_nil ?_
    refine wc_cond rfl (fun c3 => ?_) (fun c3 => ?_)
    ·have c3p := of_nd_t c3
     refine wc_seq ?_
     refine wc_tree [0, 1, 2] (fun W => Holds w [Blk b8 115 [.slice a.k g.kinds.length a.ck, .slice a.p g.precs.length a.cp, .slice a.r g.rules.length a.cr, .slice a.q g.prods.length a.cq, .int .i64 g.start, .int .i64 made2, .int .i64 why2]] W) mixed ?_
     have Hd := H25.drew
     have HSd : Holds w [Blk b8 115 [.slice a.k g.kinds.length a.ck, .slice a.p g.precs.length a.cp, .slice a.r g.rules.length a.cr, .slice a.q g.prods.length a.cq, .int .i64 g.start, .int .i64 made2, .int .i64 why2]] _ := Hd.pm (by repeat constructor)
     refine wjV (k := 0) rfl HSd (fun W HW => v_bld ba24 rfl (by repeat constructor)) ?_
     refine wjV (k := 1) rfl HSd (fun W HW => v_fb (o2 := 6) fa115_2 rfl rfl) ?_
     refine wjV (k := 2) rfl HSd (fun W HW => v_load one3 rfl (HW.at (by repeat constructor) rfl)) ?_
     refine wj_t (k := 3) rfl (by kernel_rfl) ?_
     refine wl_store (vs := [_, _, _, _]) Hd (by repeat constructor) sz24 rfl rfl rfl rfl rfl (by (repeat constructor)) ?_
     intro w26 H27 hw26
     have HS28 : Holds w [Blk b8 115 [.slice a.k g.kinds.length a.ck, .slice a.p g.precs.length a.cp, .slice a.r g.rules.length a.cr, .slice a.q g.prods.length a.cq, .int .i64 g.start, .int .i64 made2, .int .i64 why2]] _ := H27.pm (by repeat constructor)
     refine wl_nil (tn ⟨fun _ => HS28, ?_⟩)
     refine wj_t (k := 4) rfl (by kernel_rfl) ?_
     refine wA ?_
     refine wl_nil (tn ⟨fun hlt => absurd hlt (by rw [show allH _ _ _ = true by kernel_rfl]; simp), ?_⟩)
     refine wj_done (by kernel_rfl) ?_
     refine wc_ret ?_
     first
       | (have q_ := c3p
          obtain ⟨e1_, e2_⟩ := valE_many hD (show ¬ (valD g d).cnt ≤ 65536 from fun h_ => by have h2_ := hres.1.2.1 ⟨rfl, by omega⟩; omega)
          have e3_ : why2 = 213 := by (have h_ := hres.1.1.2; omega)
          subst e3_
          rw [e1_, e2_]
          exact ⟨_, resc2 rfl rfl (run_loadVarN agg24 rfl (H27.ats (by repeat constructor))) rfl, none, 0, rfl, (H27.nxLeaf (f := fNd) (T := no) ⟨0, ⟨#[]⟩, 0⟩).pm (by repeat constructor)⟩)
       | (have q_ := c3p
          obtain ⟨e1_, e2_⟩ := valE_ok hD (show (valD g d).cnt ≤ 65536 from Classical.byContradiction fun h_ => by have h2_ := hres.1.2.2 (fun h3_ => h_ (by omega)); omega)
          obtain rfl := hres.2 c3p
          rw [e1_, e2_]
          exact ⟨_, resc2 rfl rfl (run_loadVarN agg24 rfl (H27.ats (by repeat constructor))) rfl, Ax, cx, rfl, H27.pm (by repeat constructor)⟩)
       | (have q_ := hG
          obtain ⟨e1_, e2_⟩ := valE_none hG (of_ndec (of_n_t c1))
          rw [e1_, e2_]
          exact ⟨_, resc2 rfl rfl (run_loadVarN agg24 rfl (H27.ats (by repeat constructor))) rfl, none, 0, rfl, (H27.nxLeaf (f := fNd) (T := no) ⟨0, ⟨#[]⟩, 0⟩).pm (by repeat constructor)⟩)
       | (obtain ⟨e1_, e2_⟩ := valE_plain (d := d) (row := row) (of_ndec (of_n_t c0))
          rw [e1_, e2_]
          exact ⟨_, resc2 rfl rfl (run_loadVarN agg24 rfl (H27.ats (by repeat constructor))) rfl, none, 0, rfl, (H27.nxLeaf (f := fNd) (T := no) ⟨0, ⟨#[]⟩, 0⟩).pm (by repeat constructor)⟩)
    ·have c3p := of_nd_f c3
     refine wc_skip ?_
     refine wcR ?_
     refine wV (v_loadN agg24 rfl rfl (H25.ats (by repeat constructor))) ?_
     refine wl_store (vs := [_, _, _, _]) H25 (by repeat constructor) sz24 rfl rfl rfl rfl rfl (by (repeat constructor)) ?_
     intro w30 H31 hw30
     refine wA ?_
     refine wl_nil ?_
     refine wc_ret ?_
     first
       | (have q_ := c3p
          obtain ⟨e1_, e2_⟩ := valE_many hD (show ¬ (valD g d).cnt ≤ 65536 from fun h_ => by have h2_ := hres.1.2.1 ⟨rfl, by omega⟩; omega)
          have e3_ : why2 = 213 := by (have h_ := hres.1.1.2; omega)
          subst e3_
          rw [e1_, e2_]
          exact ⟨_, resc2 rfl rfl (run_loadVarN agg24 rfl (H31.ats (by repeat constructor))) rfl, none, 0, rfl, (H31.nxLeaf (f := fNd) (T := no) ⟨0, ⟨#[]⟩, 0⟩).pm (by repeat constructor)⟩)
       | (have q_ := c3p
          obtain ⟨e1_, e2_⟩ := valE_ok hD (show (valD g d).cnt ≤ 65536 from Classical.byContradiction fun h_ => by have h2_ := hres.1.2.2 (fun h3_ => h_ (by omega)); omega)
          obtain rfl := hres.2 c3p
          rw [e1_, e2_]
          exact ⟨_, resc2 rfl rfl (run_loadVarN agg24 rfl (H31.ats (by repeat constructor))) rfl, Ax, cx, rfl, H31.pm (by repeat constructor)⟩)
       | (have q_ := hG
          obtain ⟨e1_, e2_⟩ := valE_none hG (of_ndec (of_n_t c1))
          rw [e1_, e2_]
          exact ⟨_, resc2 rfl rfl (run_loadVarN agg24 rfl (H31.ats (by repeat constructor))) rfl, none, 0, rfl, (H31.nxLeaf (f := fNd) (T := no) ⟨0, ⟨#[]⟩, 0⟩).pm (by repeat constructor)⟩)
       | (obtain ⟨e1_, e2_⟩ := valE_plain (d := d) (row := row) (of_ndec (of_n_t c0))
          rw [e1_, e2_]
          exact ⟨_, resc2 rfl rfl (run_loadVarN agg24 rfl (H31.ats (by repeat constructor))) rfl, none, 0, rfl, (H31.nxLeaf (f := fNd) (T := no) ⟨0, ⟨#[]⟩, 0⟩).pm (by repeat constructor)⟩)
end Go.Proofs.Ytgdemplcpcacaaa.RValue

/-! The value of a tree is the document's. -/
namespace Go.Proofs.Ytgdemplcpcacaaa.BValues
open Go Go.RowKit Go.Proofs.YtgdemplcpcacaaaFx Go.Proofs.Ytgdemplcpcacaaa.AliveB Go.Proofs.Ytgdemplcpcacaaa.PValue Go.Proofs.Ytgdemplcpcacaaa.RValue Go.Proofs.Ytgdemplcpcacaaa.SameN
theorem agg24 : Agg Try.prog 24 4 := agg_of Try.underlying24 (by kernel_rfl)
theorem agg44 : Agg Try.prog 44 5 := agg_of Try.underlying44 (by kernel_rfl)
theorem agg50 : Agg Try.prog 50 3 := agg_of Try.underlying50 (by kernel_rfl)
theorem en10 : Enters Try.prog 10 := enters Try.func10 (by kernel_rfl) rfl
theorem en14 : Enters Try.prog 14 := enters Try.func14 (by kernel_rfl) rfl
theorem en16 : Enters Try.prog 16 := enters Try.func16 (by kernel_rfl) rfl
theorem en17 : Enters Try.prog 17 := enters Try.func17 (by kernel_rfl) rfl
theorem fa47_0 : FieldAt Try.prog 47 0 0 := field_at (sz := 4) Try.underlying47 rfl (by kernel_rfl) rfl
theorem fa53_0 : FieldAt Try.prog 53 0 0 := field_at (sz := 2) Try.underlying53 rfl (by kernel_rfl) rfl
theorem fa53_1 : FieldAt Try.prog 53 1 3 := field_at (sz := 0) Try.underlying53 rfl (by kernel_rfl) rfl
theorem one51 : One Try.prog 51 := one_of Try.underlying51 rfl (by kernel_rfl)
theorem sz24 : ∀ W, (sizeOf 24).run Try.prog W = .ok 4 W := size_of (by kernel_rfl)
theorem zv24 : ∀ W, (zeroValue 24).run Try.prog W = .ok (.agg #[.int .i64 0, .string ⟨#[]⟩, .int .i64 0, .slice none 0 0]) W := zero_of (by kernel_rfl)

theorem valR_few {x : Gv} {a : GvA} {d : Dv} {row : List Int} (hg : x.ok a) : (valR x.g d row).All few := by
  unfold valR
  split
  · rename_i h
    have hd : DrvOk x.g d row := Classical.byContradiction fun h_ => by
      rcases Classical.em (GOk x.g) with hG | hG
      · rw [(valE_none hG h_).1] at h; exact absurd h (by decide)
      · rw [(valE_plain hG).1] at h; exact absurd h (by decide)
    exact valD_few hd.1.acts d hd.dv
  · exact (Tr.All_eq _).2 ⟨show (0 : Nat) ≤ _ by decide, (Tr.Alls_iff _).2 fun t ht => absurd ht (List.not_mem_nil)⟩

set_option maxHeartbeats 3200000 in
set_option maxRecDepth 100000 in
theorem values_calls {x : Gv} {a : GvA} {d : Dv} {row : List Int} {A B : Option Addr} {k c : Nat} {w : World} (hx : x.rd w a) (hk : x.ok a) (hd : Rd (kTr fDv) w B d.kids) (hr : Rd (kInt .i64) w A row) (hcn : d.cnt ≤ 1048576) (hrl : row.length ≤ 1048576) : Calls Try.prog 4 #[.agg #[.slice a.a.k x.g.kinds.length a.a.ck, .slice a.a.p x.g.precs.length a.a.cp, .slice a.a.r x.g.rules.length a.a.cr, .slice a.a.q x.g.prods.length a.a.cq, .int .i64 x.g.start, .slice a.l x.l.length a.cl, .slice a.t x.ty.length a.ct], .agg #[.int .i64 d.x.prod, .int .i64 d.x.tok, .slice B d.kids.length k, .slice A row.length c]] w fun e w' => ∃ v, e = .returned v ∧ v = .bool true ∧ Holds w [] w' := by
  refine calls_of Try.func4 rfl Try.ntmps4 rfl ?_
  have H := Holds.start w
  refine wcR ?_
  refine wl_box (cs := [_, _, _, _, _, _, _]) H rfl rfl rfl ?_
  intro b2 w1 hb2 H2
  refine wl_box (cs := [_, _, _, _]) H2 rfl rfl rfl ?_
  intro b3 w3 hb3 H4
  refine wA ?_
  refine wl_nil ?_
  refine wcR ?_
  refine wV (v_fb (o2 := 0) fa47_0 rfl rfl) ?_
  refine wV (v_loadN (cs := [_, _, _, _, _]) agg44 rfl rfl (H4.atsN (k := 5) (by repeat constructor) rfl)) ?_
  refine wV (v_fb (o2 := 0) fa53_0 rfl rfl) ?_
  refine wV (v_loadN (cs := [_, _, _]) agg50 rfl rfl (H4.atsN (k := 3) (by repeat constructor) rfl)) ?_
  refine wV (v_fb (o2 := 3) fa53_1 rfl rfl) ?_
  refine wV (v_load one51 rfl (H4.at (by repeat constructor) rfl)) ?_
  refine wl_call en16 rfl rfl (pvalue_calls hk.g (hx.g.below H4.old) (hd.below H4.old) (hr.below H4.old) (by omega) (by omega)) ?_
  rintro _ w5 ⟨Ap, cp, rfl, Hc⟩
  have H6 := H4.call Hc
  refine wM ?_
  refine wV (v_extract rfl rfl) ?_
  refine wV (v_extract rfl rfl) ?_
  refine wl_alloc (cs := [.int .i64 0, .string ⟨#[]⟩, .int .i64 0, .slice none 0 0]) H6 rfl zv24 rfl ?_
  intro b5 w7 hb5 H8
  refine wl_store (vs := [_, _, _, _]) H8 (by repeat constructor) sz24 rfl rfl rfl rfl rfl (by (repeat constructor)) ?_
  intro w9 H10 hw9
  refine wA ?_
  refine wl_nil ?_
  refine wcR ?_
  refine wV (v_fb (o2 := 0) fa47_0 rfl rfl) ?_
  refine wV (v_loadN (cs := [_, _, _, _, _]) agg44 rfl rfl (H10.atsN (k := 5) (by repeat constructor) rfl)) ?_
  refine wV (v_fb (o2 := 0) fa53_0 rfl rfl) ?_
  refine wV (v_loadN (cs := [_, _, _]) agg50 rfl rfl (H10.atsN (k := 3) (by repeat constructor) rfl)) ?_
  refine wV (v_fb (o2 := 3) fa53_1 rfl rfl) ?_
  refine wV (v_load one51 rfl (H10.at (by repeat constructor) rfl)) ?_
  refine wl_call en17 rfl rfl (rvalue_calls hk.g (hx.g.below H10.old) (hd.below H10.old) (hr.below H10.old) (by omega) (by omega)) ?_
  rintro _ w11 ⟨Ar, cr, rfl, Hc⟩
  have H12 := H10.callN1 (fun _ h_ => h_.elim) Hc
  refine wM ?_
  refine wV (v_extract rfl rfl) ?_
  refine wV (v_extract rfl rfl) ?_
  refine wl_alloc (cs := [.int .i64 0, .string ⟨#[]⟩, .int .i64 0, .slice none 0 0]) H12 rfl zv24 rfl ?_
  intro b7 w13 hb7 H14
  refine wl_store (vs := [_, _, _, _]) H14 (by repeat constructor) sz24 rfl rfl rfl rfl rfl (by (repeat constructor)) ?_
  intro w15 H16 hw15
  refine wA ?_
  refine wl_nil ?_
  refine wcR ?_
  refine wV (v_loadN agg24 rfl rfl (H16.ats (by repeat constructor))) ?_
  refine wV (v_loadN agg24 rfl rfl (H16.ats (by repeat constructor))) ?_
  refine wl_call en14 rfl rfl (rsame_calls (valR x.g d row) (valR x.g d row) _ Ap Ar cp cr (H16.oRd (f := fNd) (e := 24) (x := ⟨0, ⟨#[]⟩, 0⟩) (by repeat constructor)) (H16.nxRd (by repeat constructor)) (valR_few hk)) ?_
  rintro _ w17 ⟨rfl, Hc⟩
  have H18 := H16.call0 Hc
  refine wM ?_
  refine wl_on' rfl rfl (dec_t rfl) ?_
  refine wM ?_
  refine wl_on' rfl rfl (dec_t rfl) ?_
  refine wM ?_
  refine wl_on' rfl rfl (dec_t rfl) ?_
  refine wV (v_eql rfl rfl) ?_
  refine wV (v_pick_t rfl (dec_t rfl) rfl) ?_
  refine wM ?_
  refine wl_guard rfl rfl rfl (fun g37 => ?_) (fun g37 => ?_)
  ·have g37p := of_decide_eq_true g37
   refine wl_call en10 rfl rfl (alive_calls) ?_
   rintro _ w19 ⟨rfl, Hc⟩
   have H20 := H18.call0 Hc
   refine wV (v_pick_t rfl g37 rfl) ?_
   refine wA ?_
   refine wl_nil ?_
   refine wc_ret ?_
   exact ⟨_, res1 rfl rfl, rfl, H20.pm (by repeat (first | exact pm_refl _ | constructor | refine pm_skip ?_))⟩
  ·have g37p := of_decide_eq_false g37
   exact absurd g37 (by simp)
end Go.Proofs.Ytgdemplcpcacaaa.BValues

/-! An action that a tree does not use has no part in its value. -/
namespace Go.Proofs.Ytgdemplcpcacaaa.BOthers
open Go Go.RowKit Go.Proofs.YtgdemplcpcacaaaFx Go.Proofs.Ytgdemplcpcacaaa.AliveB Go.Proofs.Ytgdemplcpcacaaa.PValue Go.Proofs.Ytgdemplcpcacaaa.SameN Go.Proofs.Ytgdemplcpcacaaa.UsesN Go.Proofs.Ytgdemplcpcacaaa.BValues
theorem agg24 : Agg Try.prog 24 4 := agg_of Try.underlying24 (by kernel_rfl)
theorem agg44 : Agg Try.prog 44 5 := agg_of Try.underlying44 (by kernel_rfl)
theorem agg50 : Agg Try.prog 50 3 := agg_of Try.underlying50 (by kernel_rfl)
theorem agg69 : Agg Try.prog 69 4 := agg_of Try.underlying69 (by kernel_rfl)
theorem en10 : Enters Try.prog 10 := enters Try.func10 (by kernel_rfl) rfl
theorem en14 : Enters Try.prog 14 := enters Try.func14 (by kernel_rfl) rfl
theorem en16 : Enters Try.prog 16 := enters Try.func16 (by kernel_rfl) rfl
theorem en22 : Enters Try.prog 22 := enters Try.func22 (by kernel_rfl) rfl
theorem fa44_3 : FieldAt Try.prog 44 3 3 := field_at (sz := 0) Try.underlying44 rfl (by kernel_rfl) rfl
theorem fa47_0 : FieldAt Try.prog 47 0 0 := field_at (sz := 4) Try.underlying47 rfl (by kernel_rfl) rfl
theorem fa53_0 : FieldAt Try.prog 53 0 0 := field_at (sz := 2) Try.underlying53 rfl (by kernel_rfl) rfl
theorem fa53_1 : FieldAt Try.prog 53 1 3 := field_at (sz := 0) Try.underlying53 rfl (by kernel_rfl) rfl
theorem fa71_0 : FieldAt Try.prog 71 0 0 := field_at (sz := 0) Try.underlying71 rfl (by kernel_rfl) rfl
theorem fa71_1 : FieldAt Try.prog 71 1 1 := field_at (sz := 3) Try.underlying71 rfl (by kernel_rfl) rfl
theorem fa73_3 : FieldAt Try.prog 73 3 3 := field_at (sz := 3) Try.underlying73 rfl (by kernel_rfl) rfl
theorem info73 : (Try.prog.info? 73).map (fun i => (i.zero, i.size, i.bytes)) = some (some (.agg #[.int .i64 0, .slice none 0 0, .int .i64 0, .int .i64 0, .int .i64 0, .string ⟨#[]⟩, .slice none 0 0]), 7, 96) := by kernel_rfl
theorem mixed : Try.prog.follows .mixedOrders = true := by kernel_rfl
theorem one3 : One Try.prog 3 := one_of Try.underlying3 rfl (by kernel_rfl)
theorem one42 : One Try.prog 42 := one_of Try.underlying42 rfl (by kernel_rfl)
theorem one51 : One Try.prog 51 := one_of Try.underlying51 rfl (by kernel_rfl)
theorem sz24 : ∀ W, (sizeOf 24).run Try.prog W = .ok 4 W := size_of (by kernel_rfl)
theorem sz42 : ∀ W, (sizeOf 42).run Try.prog W = .ok 1 W := size_of (by kernel_rfl)
theorem sz44 : ∀ W, (sizeOf 44).run Try.prog W = .ok 5 W := size_of (by kernel_rfl)
theorem sz69 : ∀ W, (sizeOf 69).run Try.prog W = .ok 4 W := size_of (by kernel_rfl)
theorem sz73 : ∀ W, (sizeOf 73).run Try.prog W = .ok 7 W := size_of (by kernel_rfl)
theorem zv24 : ∀ W, (zeroValue 24).run Try.prog W = .ok (.agg #[.int .i64 0, .string ⟨#[]⟩, .int .i64 0, .slice none 0 0]) W := zero_of (by kernel_rfl)
theorem zv44 : ∀ W, (zeroValue 44).run Try.prog W = .ok (.agg #[.slice none 0 0, .slice none 0 0, .slice none 0 0, .slice none 0 0, .int .i64 0]) W := zero_of (by kernel_rfl)
theorem zv69 : ∀ W, (zeroValue 69).run Try.prog W = .ok (.agg #[.int .i64 0, .int .i64 0, .string ⟨#[]⟩, .slice none 0 0]) W := zero_of (by kernel_rfl)

theorem value_act {g : Pl} {a : PlA} {i : Nat} {o : Ac} {row : List Int} {w : World} {A B Q : Option Addr} {k cr c5 : Nat} {d : Dv} (hg : (g.act i o).ok) (hrg : (g.act i o).rd w ⟨a.k, a.ck, a.p, a.cp, a.r, a.cr, Q, c5⟩) (hr : Rd (kTr fDv) w B d.kids) (hR : Rd (kInt .i64) w A row) (hl : row.length ≤ 1099511627776) (hcn : d.cnt ≤ 1099511627776) :
    Calls Try.prog 16 #[.agg #[.slice a.k g.kinds.length a.ck, .slice a.p g.precs.length a.cp, .slice a.r g.rules.length a.cr, .slice Q g.prods.length c5, .int .i64 g.start], .agg #[.int .i64 d.x.prod, .int .i64 d.x.tok, .slice B d.kids.length k], .slice A row.length cr] w fun e w' => ∃ v, e = .returned v ∧ ∃ A' c', v = .tuple #[.agg #[.int .i64 (valR (g.act i o) d row).x.kind, .string (valR (g.act i o) d row).x.name, .int .i64 (valR (g.act i o) d row).x.tok, .slice A' (valR (g.act i o) d row).kids.length c'], .int .i64 (valE (g.act i o) d row)] ∧ Holds w [ORow fNd 24 (.slice A' (valR (g.act i o) d row).kids.length c') (valR (g.act i o) d row).kids] w' := by
  have h := pvalue_calls hg hrg hr hR hl hcn (k := k) (cr := cr)
  rw [act_len] at h
  exact h

set_option maxHeartbeats 6400000 in
set_option maxRecDepth 100000 in
theorem others_calls {x : Gv} {a : GvA} {d : Dv} {row : List Int} {A B C : Option Addr} {k c kc : Nat} {p : Int} {o : Ac} {w : World} (hx : x.rd w a) (hk : x.ok a) (hd : Rd (kTr fDv) w B d.kids) (hr : Rd (kInt .i64) w A row) (hcn : d.cnt ≤ 1048576) (hrl : row.length ≤ 1048576) (hp : I64 p) (ho : Rd (kTr fAc) w C o.kids) (hoc : o.cnt ≤ 1048576) (hkc : o.kids.length ≤ kc) : Calls Try.prog 7 #[.agg #[.slice a.a.k x.g.kinds.length a.a.ck, .slice a.a.p x.g.precs.length a.a.cp, .slice a.a.r x.g.rules.length a.a.cr, .slice a.a.q x.g.prods.length a.a.cq, .int .i64 x.g.start, .slice a.l x.l.length a.cl, .slice a.t x.ty.length a.ct], .agg #[.int .i64 d.x.prod, .int .i64 d.x.tok, .slice B d.kids.length k, .slice A row.length c], .agg #[.int .i64 p, .int .i64 o.x.kind, .int .i64 o.x.at_, .string o.x.name, .slice C o.kids.length kc]] w fun e w' => ∃ v, e = .returned v ∧ v = .bool true ∧ Holds w [] w' := by
  obtain ⟨xs, hxl, hxi, hxr⟩ := hx.g.q.prx
  have hqn := hk.q
  refine calls_of Try.func7 rfl Try.ntmps7 rfl ?_
  have H := Holds.start w
  refine wcR ?_
  refine wl_box (cs := [_, _, _, _, _, _, _]) H rfl rfl rfl ?_
  intro b3 w1 hb3 H2
  refine wl_box (cs := [_, _, _, _]) H2 rfl rfl rfl ?_
  intro b4 w3 hb4 H4
  refine wl_box (cs := [_, _, _, _, _]) H4 rfl rfl rfl ?_
  intro b5 w5 hb5 H6
  refine wA ?_
  refine wl_nil ?_
  refine wc_seq ?_
  refine wcR ?_
  refine wl_call en10 rfl rfl (alive_calls) ?_
  rintro _ w7 ⟨rfl, Hc⟩
  have H8 := H6.call0 Hc
  refine wV (v_not rfl) ?_
  refine wl_nil ?_
  refine wc_cond_f rfl ?_
  refine wc_skip ?_
  refine wc_seq ?_
  refine wc_tree [0, 1, 2, 3, 5] (fun W => Holds w [Blk b5 71 [.int .i64 p, .int .i64 o.x.kind, .int .i64 o.x.at_, .string o.x.name, .slice C o.kids.length kc]] W) mixed ?_
  have Hd := H8.drew
  have HSd : Holds w [Blk b5 71 [.int .i64 p, .int .i64 o.x.kind, .int .i64 o.x.at_, .string o.x.name, .slice C o.kids.length kc]] _ := Hd.pm (by repeat (first | exact pm_refl _ | constructor | refine pm_skip ?_))
  refine wjV (k := 0) rfl HSd (fun W HW => v_fb (o2 := 0) fa71_0 rfl rfl) ?_
  refine wjV (k := 1) rfl HSd (fun W HW => v_load one3 rfl (HW.at (by repeat constructor) rfl)) ?_
  refine wjV (k := 2) rfl HSd (fun W HW => v_fb (o2 := 1) fa71_1 rfl rfl) ?_
  refine wjV (k := 3) rfl HSd (fun W HW => v_loadN (cs := [_, _, _, _]) agg69 rfl rfl (HW.atsN (k := 4) (by repeat constructor) rfl)) ?_
  refine wj_t (k := 4) rfl (by kernel_rfl) ?_
  refine wl_alloc (cs := [.int .i64 0, .int .i64 0, .string ⟨#[]⟩, .slice none 0 0]) Hd rfl zv69 rfl ?_
  intro b8 w9 hb8 H10
  have HS11 : Holds w [Blk b5 71 [.int .i64 p, .int .i64 o.x.kind, .int .i64 o.x.at_, .string o.x.name, .slice C o.kids.length kc]] _ := H10.pm (by repeat (first | exact pm_refl _ | constructor | refine pm_skip ?_))
  refine wl_nil (tn ⟨fun _ => HS11, ?_⟩)
  refine wjV (k := 5) rfl HS11 (fun W HW => v_assign rfl) ?_
  refine wj_t (k := 6) rfl (by kernel_rfl) ?_
  refine wl_store (vs := [_, _, _, _]) H10 (by repeat constructor) sz69 rfl rfl rfl rfl rfl (by (repeat constructor)) ?_
  intro w12 H13 hw12
  refine wl_nil (tn ⟨fun hlt => absurd hlt (by rw [show allH _ _ _ = true by kernel_rfl]; simp), ?_⟩)
  refine wj_done (by kernel_rfl) ?_
  refine wc_seq ?_
  refine wcR ?_
  refine wV (v_fb (o2 := 0) fa47_0 rfl rfl) ?_
  refine wV (v_fb (o2 := 3) fa44_3 rfl rfl) ?_
  refine wV (v_load one42 rfl (H13.at (by repeat constructor) rfl)) ?_
  refine wV (v_len Try.underlying42 rfl) ?_
  refine wV (v_eql rfl rfl) ?_
  refine wl_nil ?_
  refine wc_cond rfl (fun c1 => ?_) (fun c1 => ?_)
  ·have c1p := of_decide_eq_true c1
   refine wcR ?_
   refine wA ?_
   refine wl_nil ?_
   refine wc_ret ?_
   first
     | (have q_ := hsv
        exact ⟨_, res1 rfl rfl, congrArg Value.bool (dec_t hsv.symm), H13.pm (by repeat (first | exact pm_refl _ | constructor | refine pm_skip ?_))⟩)
     | exact ⟨_, res1 rfl rfl, rfl, H13.pm (by repeat (first | exact pm_refl _ | constructor | refine pm_skip ?_))⟩
  ·have c1p := of_decide_eq_false c1
   have hn0 : 0 < x.g.prods.length := by omega
   refine wc_skip ?_
   refine wc_seq ?_
   refine wc_still mixed (by kernel_rfl) ?_
   have Hd := H13.drew
   refine ws_v rfl rfl rfl (v_move rfl) ?_
   refine ws_v rfl rfl rfl (v_fb (o2 := 0) fa47_0 rfl rfl) ?_
   refine ws_v rfl rfl rfl (v_fb (o2 := 3) fa44_3 rfl rfl) ?_
   refine ws_v rfl rfl rfl (v_load one42 rfl (Hd.at (by repeat constructor) rfl)) ?_
   refine ws_v rfl rfl rfl (v_len Try.underlying42 rfl) ?_
   refine ws_v rfl rfl rfl (v_rem rfl rfl (by omega)) ?_
   obtain ⟨q1, hq1, hb1⟩ : ∃ q : Int, Int.tmod p x.g.prods.length = q ∧ (-(x.g.prods.length : Int) < q ∧ q < x.g.prods.length) := ⟨_, rfl, rem_lt (by omega)⟩
   rw [hq1]
   refine ws_v rfl rfl rfl (v_fb (o2 := 0) fa47_0 rfl rfl) ?_
   refine ws_v rfl rfl rfl (v_fb (o2 := 3) fa44_3 rfl rfl) ?_
   refine ws_v rfl rfl rfl (v_load one42 rfl (Hd.at (by repeat constructor) rfl)) ?_
   refine ws_v rfl rfl rfl (v_len Try.underlying42 rfl) ?_
   refine ws_v rfl rfl rfl (v_addi rfl rfl (by omega)) ?_
   refine ws_v rfl rfl rfl (v_fb (o2 := 0) fa47_0 rfl rfl) ?_
   refine ws_v rfl rfl rfl (v_fb (o2 := 3) fa44_3 rfl rfl) ?_
   refine ws_v rfl rfl rfl (v_load one42 rfl (Hd.at (by repeat constructor) rfl)) ?_
   refine ws_v rfl rfl rfl (v_len Try.underlying42 rfl) ?_
   refine ws_v rfl rfl rfl (v_rem rfl rfl (by omega)) ?_
   obtain ⟨i, hq2, hin⟩ : ∃ i : Nat, Int.tmod (q1 + x.g.prods.length) x.g.prods.length = i ∧ i < x.g.prods.length := by
     have h1_ := rem_nn (p := q1 + x.g.prods.length) (n := x.g.prods.length) (by omega)
     have h2_ := (rem_lt (p := q1 + x.g.prods.length) (n := x.g.prods.length) (by omega)).2
     exact ⟨(Int.tmod (q1 + x.g.prods.length) x.g.prods.length).toNat, by omega, by omega⟩
   rw [hq2]
   refine ws_v rfl rfl rfl (v_assign rfl) ?_
   refine ws_nil ?_
   refine wcR ?_
   refine wV (v_fb (o2 := 0) fa47_0 rfl rfl) ?_
   refine wV (v_loadN (cs := [_, _, _, _, _]) agg44 rfl rfl (Hd.atsN (k := 5) (by repeat constructor) rfl)) ?_
   refine wV (v_fb (o2 := 0) fa53_0 rfl rfl) ?_
   refine wV (v_loadN (cs := [_, _, _]) agg50 rfl rfl (Hd.atsN (k := 3) (by repeat constructor) rfl)) ?_
   refine wV (v_fb (o2 := 3) fa53_1 rfl rfl) ?_
   refine wV (v_load one51 rfl (Hd.at (by repeat constructor) rfl)) ?_
   refine wl_call en16 rfl rfl (pvalue_calls hk.g (hx.g.below Hd.old) (hd.below Hd.old) (hr.below Hd.old) (by omega) (by omega)) ?_
   rintro _ w17 ⟨Ap, cp, rfl, Hc⟩
   have H18 := Hd.call Hc
   refine wM ?_
   refine wV (v_extract rfl rfl) ?_
   refine wV (v_extract rfl rfl) ?_
   refine wl_alloc (cs := [.int .i64 0, .string ⟨#[]⟩, .int .i64 0, .slice none 0 0]) H18 rfl zv24 rfl ?_
   intro b9 w19 hb9 H20
   refine wl_store (vs := [_, _, _, _]) H20 (by repeat constructor) sz24 rfl rfl rfl rfl rfl (by (repeat constructor)) ?_
   intro w21 H22 hw21
   refine wA ?_
   refine wl_nil ?_
   refine wcR ?_
   refine wV (v_fb (o2 := 0) fa47_0 rfl rfl) ?_
   refine wV (v_loadN (cs := [_, _, _, _, _]) agg44 rfl rfl (H22.atsN (k := 5) (by repeat constructor) rfl)) ?_
   refine wl_alloc (cs := [.slice none 0 0, .slice none 0 0, .slice none 0 0, .slice none 0 0, .int .i64 0]) H22 rfl zv44 rfl ?_
   intro b11 w23 hb11 H24
   refine wl_store (vs := [_, _, _, _, _]) H24 (by repeat constructor) sz44 rfl rfl rfl rfl rfl (by (repeat constructor)) ?_
   intro w25 H26 hw25
   refine wl_nil ?_
   refine wcR ?_
   refine wV (v_fb (o2 := 0) fa47_0 rfl rfl) ?_
   refine wV (v_fb (o2 := 3) fa44_3 rfl rfl) ?_
   refine wV (v_load one42 rfl (H26.at (by repeat constructor) rfl)) ?_
   have Hn27 := H26.nilrow 73 7
   refine wl_appR (f := fPrX) (xs := []) (ys := xs) Hn27 (fun v' => (by repeat constructor)) rfl Try.underlying42 info73 rfl (by decide) rfl (by rw [hxl]; rfl) (hxr.below H26.old) (by rw [List.length_nil, hxl]; omega) (by decide) ?_
   intro A56 c56 w27 H27 hs27
   rw [show ([] : List PrX) ++ xs = xs from rfl] at H27 ⊢
   refine wV (v_fb (o2 := 3) fa44_3 rfl rfl) ?_
   refine wl_store (vs := [_]) H27 (by repeat constructor) sz42 rfl rfl rfl rfl rfl (by (repeat constructor)) ?_
   intro w28 H29 hw28
   refine wl_nil ?_
   refine wcR ?_
   refine wV (v_fb (o2 := 3) fa44_3 rfl rfl) ?_
   refine wV (v_load one42 rfl (H29.at (by repeat constructor) rfl)) ?_
   refine wM ?_
   refine wV (v_loadN agg69 rfl rfl (H29.ats (by repeat constructor))) ?_
   refine wV (v_idx Try.underlying42 sz73 (H29.rrd (f := fPrX) (e := 73) (A := A56) (xs := xs) (by repeat constructor)).ad rfl rfl (by omega) (by omega)) ?_
   refine wV (v_fp fa73_3 rfl) ?_
   refine wl_storeP (f := fPrX) (e := 73) (A := A56) (xs := xs) (x' := ⟨{ x.g.prods.getD i pr0 with act := o }, (xs.getD i prx0).r, (xs.getD i prx0).c, C, kc⟩) (k := 3) (i := (i : Int)) (z0 := prx0) (vs := [.int .i64 o.x.kind, .int .i64 o.x.at_, .string o.x.name, .slice C o.kids.length kc]) H29 (by repeat constructor) sz69 rfl rfl rfl rfl (by intro u_ hu_; simp only [List.mem_cons, List.not_mem_nil, or_false] at hu_; rcases hu_ with rfl | rfl | rfl | rfl <;> rfl) (by omega) (by omega) (by decide) (by obtain ⟨h1_, _⟩ := hxi i hin; show [Value.int .i64 (xs.getD (i : Int).toNat prx0).p.left, .slice (xs.getD (i : Int).toNat prx0).r (xs.getD (i : Int).toNat prx0).p.right.length (xs.getD (i : Int).toNat prx0).c, .int .i64 (xs.getD (i : Int).toNat prx0).p.level, .int .i64 o.x.kind, .int .i64 o.x.at_, .string o.x.name, .slice C o.kids.length kc] = _; rw [Int.toNat_natCast, h1_]; rfl) ?_
   intro w30 H30
   rw [Int.toNat_natCast, hxl] at H30
   rw [hxl]
   refine wl_nil ?_
   refine wcR ?_
   refine wV (v_loadN agg44 rfl rfl (H30.ats (by repeat constructor))) ?_
   refine wV (v_fb (o2 := 0) fa53_0 rfl rfl) ?_
   refine wV (v_loadN (cs := [_, _, _]) agg50 rfl rfl (H30.atsN (k := 3) (by repeat constructor) rfl)) ?_
   refine wV (v_fb (o2 := 3) fa53_1 rfl rfl) ?_
   refine wV (v_load one51 rfl (H30.at (by repeat constructor) rfl)) ?_
   refine wl_call en16 rfl rfl (value_act (g := x.g) (i := i) (o := o) (a := a.a) (Q := A56) (c5 := c56) (act_ok hk.g hin (by omega)) ⟨(hx.g.below H30.old).k, (hx.g.below H30.old).p, (hx.g.below H30.old).r, act_rd hin hxl (fun j hj => ⟨(hxi j hj).1, (hxi j hj).2.below H30.old⟩) hkc (ho.below H30.old) (H30.rrd (f := fPrX) (e := 73) (A := A56) (by repeat constructor))⟩ (hd.below H30.old) (hr.below H30.old) (by omega) (by omega)) ?_
   rintro _ w31 ⟨Aq, cq, rfl, Hc⟩
   have H32 := H30.call Hc
   refine wM ?_
   refine wV (v_extract rfl rfl) ?_
   refine wV (v_extract rfl rfl) ?_
   refine wl_alloc (cs := [.int .i64 0, .string ⟨#[]⟩, .int .i64 0, .slice none 0 0]) H32 rfl zv24 rfl ?_
   intro b12 w33 hb12 H34
   refine wl_store (vs := [_, _, _, _]) H34 (by repeat constructor) sz24 rfl rfl rfl rfl rfl (by (repeat constructor)) ?_
   intro w35 H36 hw35
   refine wA ?_
   refine wl_nil ?_
   refine wc_seq ?_
   refine wcR ?_
   refine wV (v_fb (o2 := 0) fa53_0 rfl rfl) ?_
   refine wV (v_loadN (cs := [_, _, _]) agg50 rfl rfl (H36.atsN (k := 3) (by repeat constructor) rfl)) ?_
   refine wM ?_
   refine wl_call en22 rfl rfl (puses_calls d _ _ _ (hd.below H36.old) (by omega)) ?_
   rintro _ w37 ⟨rfl, Hc⟩
   have H38 := H36.call0 Hc
   refine wM ?_
   refine wl_guard rfl rfl rfl (fun g77 => ?_) (fun g77 => ?_)
   ·refine wM ?_
    refine wO g77 ?_
    refine wV (v_eql rfl rfl) ?_
    refine wV (v_pick_f rfl g77 rfl) ?_
    refine wM ?_
    refine wl_guard rfl rfl rfl (fun g81 => ?_) (fun g81 => ?_)
    ·have g81p := of_decide_eq_false g81
     refine wM ?_
     refine wO g81 ?_
     refine wV (v_eql rfl rfl) ?_
     refine wV (v_pick_f rfl g81 rfl) ?_
     refine wl_nil ?_
     refine wc_cond rfl (fun c2 => ?_) (fun c2 => ?_)
     ·have c2p := of_decide_eq_true c2
      refine wcR ?_
      refine wA ?_
      refine wl_nil ?_
      refine wc_ret ?_
      first
        | (have q_ := hsv
           exact ⟨_, res1 rfl rfl, congrArg Value.bool (dec_t hsv.symm), H38.pm (by repeat (first | exact pm_refl _ | constructor | refine pm_skip ?_))⟩)
        | exact ⟨_, res1 rfl rfl, rfl, H38.pm (by repeat (first | exact pm_refl _ | constructor | refine pm_skip ?_))⟩
     ·have c2p := of_decide_eq_false c2
      obtain ⟨hse, hsv⟩ := act_same (a := o) hin (Classical.byContradiction (of_ndec g77)) (by assumption) (by assumption)
      refine wc_skip ?_
      refine wcR ?_
      refine wM ?_
      refine wM ?_
      refine wV (v_eql rfl rfl) ?_
      refine wM ?_
      refine wl_guard rfl rfl rfl (fun g88 => ?_) (fun g88 => ?_)
      ·have g88p := of_decide_eq_true g88
       refine wV (v_loadN agg24 rfl rfl (H38.ats (by repeat constructor))) ?_
       refine wO g88 ?_
       refine wV (v_loadN agg24 rfl rfl (H38.ats (by repeat constructor))) ?_
       refine wO g88 ?_
       refine wl_call en14 rfl rfl (rsame_calls (valR x.g d row) (valR (x.g.act i o) d row) _ Ap Aq cp cq (H38.oRd (f := fNd) (e := 24) (x := ⟨0, ⟨#[]⟩, 0⟩) (by repeat constructor)) (H38.oRd (f := fNd) (e := 24) (x := ⟨0, ⟨#[]⟩, 0⟩) (by repeat constructor)) (valR_few hk)) ?_
       rintro _ w39 ⟨rfl, Hc⟩
       have H40 := H38.call0 Hc
       refine wV (v_pick_t rfl g88 rfl) ?_
       refine wA ?_
       refine wl_nil ?_
       refine wc_ret ?_
       first
         | (have q_ := hsv
            exact ⟨_, res1 rfl rfl, congrArg Value.bool (dec_t hsv.symm), H40.pm (by repeat (first | exact pm_refl _ | constructor | refine pm_skip ?_))⟩)
         | exact ⟨_, res1 rfl rfl, rfl, H40.pm (by repeat (first | exact pm_refl _ | constructor | refine pm_skip ?_))⟩
      ·have g88p := of_decide_eq_false g88
       exact absurd hse.symm g88p
    ·have g81p := of_decide_eq_true g81
     refine wF g81 ?_
     refine wV (v_pick_t rfl g81 rfl) ?_
     refine wl_nil ?_
     refine wc_cond_t rfl ?_
     refine wcR ?_
     refine wA ?_
     refine wl_nil ?_
     refine wc_ret ?_
     first
       | (have q_ := hsv
          exact ⟨_, res1 rfl rfl, congrArg Value.bool (dec_t hsv.symm), H38.pm (by repeat (first | exact pm_refl _ | constructor | refine pm_skip ?_))⟩)
       | exact ⟨_, res1 rfl rfl, rfl, H38.pm (by repeat (first | exact pm_refl _ | constructor | refine pm_skip ?_))⟩
   ·refine wF g77 ?_
    refine wV (v_pick_t rfl g77 rfl) ?_
    refine wM ?_
    refine wF rfl ?_
    refine wF rfl ?_
    refine wV (v_pick_t rfl rfl rfl) ?_
    refine wl_nil ?_
    refine wc_cond_t rfl ?_
    refine wcR ?_
    refine wA ?_
    refine wl_nil ?_
    refine wc_ret ?_
    first
      | (have q_ := hsv
         exact ⟨_, res1 rfl rfl, congrArg Value.bool (dec_t hsv.symm), H38.pm (by repeat (first | exact pm_refl _ | constructor | refine pm_skip ?_))⟩)
      | exact ⟨_, res1 rfl rfl, rfl, H38.pm (by repeat (first | exact pm_refl _ | constructor | refine pm_skip ?_))⟩
end Go.Proofs.Ytgdemplcpcacaaa.BOthers
