/- Which trees are derivations: the document's answer. -/
import Derived.Test.YtgdemplcpcacaaaProg
import Derived.Test.YtgdemplcpcacaaaK03
import Derived.Test.YtgdemplcpcacaaaK09
set_option linter.unusedVariables false
set_option linter.unusedSimpArgs false
/-! Which trees are derivations: the document's answer. -/
namespace Go.Proofs.Ytgdemplcpcacaaa.RCheck
open Go Go.RowKit Go.Proofs.YtgdemplcpcacaaaFx Go.Proofs.Ytgdemplcpcacaaa.PartsW Go.Proofs.Ytgdemplcpcacaaa.KindsW Go.Proofs.Ytgdemplcpcacaaa.GramW
theorem agg44 : Agg Try.prog 44 5 := agg_of Try.underlying44 (by kernel_rfl)
theorem agg50 : Agg Try.prog 50 3 := agg_of Try.underlying50 (by kernel_rfl)
theorem en42 : Enters Try.prog 42 := enters Try.func42 (by kernel_rfl) rfl
theorem en68 : Enters Try.prog 68 := enters Try.func68 (by kernel_rfl) rfl
theorem en69 : Enters Try.prog 69 := enters Try.func69 (by kernel_rfl) rfl
theorem en70 : Enters Try.prog 70 := enters Try.func70 (by kernel_rfl) rfl
theorem en88 : Enters Try.prog 88 := enters Try.func88 (by kernel_rfl) rfl
theorem en89 : Enters Try.prog 89 := enters Try.func89 (by kernel_rfl) rfl
theorem fa44_0 : FieldAt Try.prog 44 0 0 := field_at (sz := 0) Try.underlying44 rfl (by kernel_rfl) rfl
theorem fa44_3 : FieldAt Try.prog 44 3 3 := field_at (sz := 0) Try.underlying44 rfl (by kernel_rfl) rfl
theorem fa44_4 : FieldAt Try.prog 44 4 4 := field_at (sz := 0) Try.underlying44 rfl (by kernel_rfl) rfl
theorem fa50_0 : FieldAt Try.prog 50 0 0 := field_at (sz := 0) Try.underlying50 rfl (by kernel_rfl) rfl
theorem fa50_1 : FieldAt Try.prog 50 1 1 := field_at (sz := 0) Try.underlying50 rfl (by kernel_rfl) rfl
theorem fa50_2 : FieldAt Try.prog 50 2 2 := field_at (sz := 0) Try.underlying50 rfl (by kernel_rfl) rfl
theorem fa73_0 : FieldAt Try.prog 73 0 0 := field_at (sz := 0) Try.underlying73 rfl (by kernel_rfl) rfl
theorem fa73_1 : FieldAt Try.prog 73 1 1 := field_at (sz := 0) Try.underlying73 rfl (by kernel_rfl) rfl
theorem mixed : Try.prog.follows .mixedOrders = true := by kernel_rfl
theorem one3 : One Try.prog 3 := one_of Try.underlying3 rfl (by kernel_rfl)
theorem one40 : One Try.prog 40 := one_of Try.underlying40 rfl (by kernel_rfl)
theorem one42 : One Try.prog 42 := one_of Try.underlying42 rfl (by kernel_rfl)
theorem one48 : One Try.prog 48 := one_of Try.underlying48 rfl (by kernel_rfl)
theorem one51 : One Try.prog 51 := one_of Try.underlying51 rfl (by kernel_rfl)
theorem sz3 : ∀ W, (sizeOf 3).run Try.prog W = .ok 1 W := size_of (by kernel_rfl)
theorem sz50 : ∀ W, (sizeOf 50).run Try.prog W = .ok 3 W := size_of (by kernel_rfl)
theorem sz73 : ∀ W, (sizeOf 73).run Try.prog W = .ok 7 W := size_of (by kernel_rfl)

set_option maxRecDepth 100000 in
theorem right_calls {g : Pl} {a : PlA} {w : World} (hrg : g.rd w a) (hg : g.ok) : Calls Try.prog 42 #[.agg #[.slice a.k g.kinds.length a.ck, .slice a.p g.precs.length a.cp, .slice a.r g.rules.length a.cr, .slice a.q g.prods.length a.cq, .int .i64 g.start]] w fun e w' => ∃ v, e = .returned v ∧ v = .bool (dec (GOk g)) ∧ Holds w [] w' := by
  refine calls_of Try.func42 rfl Try.ntmps42 rfl ?_
  have H := Holds.start w
  refine wcR ?_
  refine wl_box (cs := [_, _, _, _, _]) H rfl rfl rfl ?_
  intro b1 w1 hb1 H2
  refine wA ?_
  refine wl_nil ?_
  refine wcR ?_
  refine wV (v_loadN agg44 rfl rfl (H2.ats (by repeat constructor))) ?_
  refine wl_call en68 rfl rfl (rgcheck_calls (hrg.below H2.old) hg) ?_
  rintro _ w3 ⟨rfl, Hc⟩
  have H4 := H2.call0 Hc
  refine wV (v_eql rfl rfl) ?_
  refine wA ?_
  refine wl_nil ?_
  refine wc_ret ?_
  exact ⟨_, res1 rfl rfl, congrArg Value.bool (dec_eq ⟨fun hd => Classical.byContradiction fun h_ => (by have e_ := checkG_f h_; have h2_ := oT hd; omega), fun hh => decide_eq_true (checkG_t hh)⟩), H4.pm (Pm.nil _)⟩

set_option maxRecDepth 100000 in
theorem rule_calls {g : Pl} {a : PlA} {w : World} {x : Int} (hg : g.ok) (hx : 1 ≤ x ∧ x ≤ 4398046511104) : Calls Try.prog 88 #[.agg #[.slice a.k g.kinds.length a.ck, .slice a.p g.precs.length a.cp, .slice a.r g.rules.length a.cr, .slice a.q g.prods.length a.cq, .int .i64 g.start], .int .i64 x] w fun e w' => ∃ v, e = .returned v ∧ ∃ ra : Int, v = .int .i64 ra ∧ ((x < g.kinds.length ∧ ra = -1) ∨ (¬ x < g.kinds.length ∧ ra = x - g.kinds.length)) ∧ Holds w [] w' := by
  have hgk := hg.k
  refine calls_of Try.func88 rfl Try.ntmps88 rfl ?_
  have H := Holds.start w
  refine wcR ?_
  refine wl_box (cs := [_, _, _, _, _]) H rfl rfl rfl ?_
  intro b2 w1 hb2 H2
  refine wA ?_
  refine wl_nil ?_
  refine wc_seq ?_
  refine wcR ?_
  refine wM ?_
  refine wV (v_fb (o2 := 0) fa44_0 rfl rfl) ?_
  refine wV (v_load one40 rfl (H2.at (by repeat constructor) rfl)) ?_
  refine wV (v_len Try.underlying40 rfl) ?_
  refine wV (v_lss rfl rfl) ?_
  refine wl_nil ?_
  refine wc_cond rfl (fun c0 => ?_) (fun c0 => ?_)
  ·have c0p := oT c0
   refine wcR ?_
   refine wA ?_
   refine wl_nil ?_
   refine wc_ret ?_
   first
     | exact ⟨_, res1 rfl rfl, _, rfl, .inl ⟨c0p, rfl⟩, H2.pm (Pm.nil _)⟩
     | exact ⟨_, res1 rfl rfl, _, rfl, .inr ⟨c0p, rfl⟩, H2.pm (Pm.nil _)⟩
  have c0p := oF c0
  refine wc_skip ?_
  refine wcR ?_
  refine wM ?_
  refine wV (v_fb (o2 := 0) fa44_0 rfl rfl) ?_
  refine wV (v_load one40 rfl (H2.at (by repeat constructor) rfl)) ?_
  refine wV (v_len Try.underlying40 rfl) ?_
  refine wV (v_subi rfl rfl (by omega)) ?_
  refine wA ?_
  refine wl_nil ?_
  refine wc_ret ?_
  first
    | exact ⟨_, res1 rfl rfl, _, rfl, .inl ⟨c0p, rfl⟩, H2.pm (Pm.nil _)⟩
    | exact ⟨_, res1 rfl rfl, _, rfl, .inr ⟨c0p, rfl⟩, H2.pm (Pm.nil _)⟩

set_option maxRecDepth 100000 in
theorem leaf_calls {d : Dv} {B : Option Addr} {k : Nat} {w : World} : Calls Try.prog 89 #[.agg #[.int .i64 d.x.prod, .int .i64 d.x.tok, .slice B d.kids.length k]] w fun e w' => ∃ v, e = .returned v ∧ v = .bool (dec (d.x.prod = -1 ∧ d.kids.length = 0)) ∧ Holds w [] w' := by
  refine calls_of Try.func89 rfl Try.ntmps89 rfl ?_
  have H := Holds.start w
  refine wcR ?_
  refine wl_box (cs := [_, _, _]) H rfl rfl rfl ?_
  intro b1 w1 hb1 H2
  refine wA ?_
  refine wl_nil ?_
  refine wcR ?_
  refine wV (v_fb (o2 := 0) fa50_0 rfl rfl) ?_
  refine wV (v_load one3 rfl (H2.at (by repeat constructor) rfl)) ?_
  refine wV (v_eql rfl rfl) ?_
  refine wM ?_
  refine wl_guard rfl rfl rfl (fun g6 => ?_) (fun g6 => ?_)
  rotate_left
  ·have g6p := oF g6
   refine wF g6 ?_
   refine wF g6 ?_
   refine wF g6 ?_
   refine wV (v_pick_f rfl g6 rfl) ?_
   refine wA ?_
   refine wl_nil ?_
   refine wc_ret ?_
   first
     | exact ⟨_, res1 rfl rfl, congrArg Value.bool (dec_eq ⟨fun hd => by (have h_ := oT hd; omega), fun hh => decide_eq_true (by omega)⟩), H2.pm (Pm.nil _)⟩
     | exact ⟨_, res1 rfl rfl, congrArg Value.bool (dec_f (by omega)).symm, H2.pm (Pm.nil _)⟩
  have g6p := oT g6
  refine wV (v_fb (o2 := 2) fa50_2 rfl rfl) ?_
  refine wO g6 ?_
  refine wV (v_load one48 rfl (H2.at (by repeat constructor) rfl)) ?_
  refine wO g6 ?_
  refine wV (v_len Try.underlying48 rfl) ?_
  refine wO g6 ?_
  refine wV (v_eql rfl rfl) ?_
  refine wV (v_pick_t rfl g6 rfl) ?_
  refine wA ?_
  refine wl_nil ?_
  refine wc_ret ?_
  first
    | exact ⟨_, res1 rfl rfl, congrArg Value.bool (dec_eq ⟨fun hd => by (have h_ := oT hd; omega), fun hh => decide_eq_true (by omega)⟩), H2.pm (Pm.nil _)⟩
    | exact ⟨_, res1 rfl rfl, congrArg Value.bool (dec_f (by omega)).symm, H2.pm (Pm.nil _)⟩

set_option maxHeartbeats 1600000 in
set_option maxRecDepth 100000 in
theorem refuse_calls {g : Pl} {a : PlA} {row : List Int} {A : Option Addr} {cr : Nat} {w : World} (hrg : g.rd w a) (hg : g.ok) (hR : Rd (kInt .i64) w A row) (hl : row.length ≤ 1099511627776) : Calls Try.prog 69 #[.agg #[.slice a.k g.kinds.length a.ck, .slice a.p g.precs.length a.cp, .slice a.r g.rules.length a.cr, .slice a.q g.prods.length a.cq, .int .i64 g.start], .slice A row.length cr] w fun e w' => ∃ v, e = .returned v ∧ ∃ q : Int, v = .int .i64 q ∧ (q = 0 ↔ GOk g ∧ RowsOk g row ∧ row.length ≤ 65536) ∧ Holds w [] w' := by
  have hgk := hg.k
  refine calls_of Try.func69 rfl Try.ntmps69 rfl ?_
  have H := Holds.start w
  refine wcR ?_
  refine wl_box (cs := [_, _, _, _, _]) H rfl rfl rfl ?_
  intro b2 w1 hb2 H2
  refine wA ?_
  refine wl_nil ?_
  refine wc_seq ?_
  refine wcR ?_
  refine wV (v_loadN agg44 rfl rfl (H2.ats (by repeat constructor))) ?_
  refine wl_call en42 rfl rfl (right_calls (hrg.below H2.old) hg) ?_
  rintro _ w3 ⟨rfl, Hc⟩
  have H4 := H2.call0 Hc
  refine wV (v_not rfl) ?_
  refine wl_nil ?_
  refine wc_cond rfl (fun c0 => ?_) (fun c0 => ?_)
  ·have c0p := of_n_t c0
   refine wcR ?_
   refine wA ?_
   refine wl_nil ?_
   refine wc_ret ?_
   first
     | (have q_ := c1p
        exact ⟨_, res1 rfl rfl, _, rfl, ⟨fun _ => ⟨hG, fun j hj => ha j (by omega), by omega⟩, fun _ => rfl⟩, H4.pm (Pm.nil _)⟩)
     | (have q_ := c1p
        exact ⟨_, res1 rfl rfl, _, rfl, ⟨fun h => by omega, fun hh => by have h_ := hh.2.1 i (by omega); omega⟩, H4.pm (Pm.nil _)⟩)
     | exact ⟨_, res1 rfl rfl, _, rfl, ⟨fun h => by omega, fun hh => by have h_ := hh.2.2; omega⟩, H4.pm (Pm.nil _)⟩
     | exact ⟨_, res1 rfl rfl, _, rfl, ⟨fun h => by omega, fun hh => absurd hh.1 (of_ndec (of_n_t c0))⟩, H4.pm (Pm.nil _)⟩
  have c0p := of_n_f c0
  have hG := of_dec (of_n_f c0)
  refine wc_skip ?_
  refine wc_seq ?_
  refine wcR ?_
  refine wA ?_
  refine wl_nil ?_
  refine wc_block ?_
  refine wc_loop (σ := Nat) (fun s => [(1, .slice A row.length cr), (2, .pointer (some ⟨b2, 0, none⟩)), (5, .int .i64 s)]) (fun s W => (s ≤ row.length ∧ ∀ j, j < s → 1 ≤ row.getD j 0 ∧ row.getD j 0 < g.kinds.length) ∧ Holds w [Blk b2 44 [.slice a.k g.kinds.length a.ck, .slice a.p g.precs.length a.cp, .slice a.r g.rules.length a.cr, .slice a.q g.prods.length a.cq, .int .i64 g.start]] W) (fun s => row.length - s) 0 (sc rfl (sc rfl (sc rfl (sn _)))) ⟨⟨Nat.zero_le _, upto_zero⟩, H4⟩ ?_
  rintro i W0 ⟨⟨hi, ha⟩, H⟩
  refine wc_seq ?_
  refine wcR ?_
  refine wM ?_
  refine wM ?_
  refine wV (v_len Try.underlying51 rfl) ?_
  refine wV (v_lss rfl rfl) ?_
  refine wl_nil ?_
  refine wc_cond rfl (fun c1 => ?_) (fun c1 => ?_)
  rotate_left
  ·have c1p := oF c1
   refine wc_exit ?_
   refine wc_seq ?_
   refine wcR ?_
   refine wM ?_
   refine wV (v_len Try.underlying51 rfl) ?_
   refine wV (v_gtr rfl rfl) ?_
   refine wl_nil ?_
   refine wc_cond rfl (fun c3 => ?_) (fun c3 => ?_)
   ·have c3p := oT c3
    refine wcR ?_
    refine wA ?_
    refine wl_nil ?_
    refine wc_ret ?_
    first
      | (have q_ := c1p
         exact ⟨_, res1 rfl rfl, _, rfl, ⟨fun _ => ⟨hG, fun j hj => ha j (by omega), by omega⟩, fun _ => rfl⟩, H.pm (Pm.nil _)⟩)
      | (have q_ := c1p
         exact ⟨_, res1 rfl rfl, _, rfl, ⟨fun h => by omega, fun hh => by have h_ := hh.2.1 i (by omega); omega⟩, H.pm (Pm.nil _)⟩)
      | exact ⟨_, res1 rfl rfl, _, rfl, ⟨fun h => by omega, fun hh => by have h_ := hh.2.2; omega⟩, H.pm (Pm.nil _)⟩
      | exact ⟨_, res1 rfl rfl, _, rfl, ⟨fun h => by omega, fun hh => absurd hh.1 (of_ndec (of_n_t c0))⟩, H.pm (Pm.nil _)⟩
   have c3p := oF c3
   refine wc_skip ?_
   refine wcR ?_
   refine wA ?_
   refine wl_nil ?_
   refine wc_ret ?_
   first
     | (have q_ := c1p
        exact ⟨_, res1 rfl rfl, _, rfl, ⟨fun _ => ⟨hG, fun j hj => ha j (by omega), by omega⟩, fun _ => rfl⟩, H.pm (Pm.nil _)⟩)
     | (have q_ := c1p
        exact ⟨_, res1 rfl rfl, _, rfl, ⟨fun h => by omega, fun hh => by have h_ := hh.2.1 i (by omega); omega⟩, H.pm (Pm.nil _)⟩)
     | exact ⟨_, res1 rfl rfl, _, rfl, ⟨fun h => by omega, fun hh => by have h_ := hh.2.2; omega⟩, H.pm (Pm.nil _)⟩
     | exact ⟨_, res1 rfl rfl, _, rfl, ⟨fun h => by omega, fun hh => absurd hh.1 (of_ndec (of_n_t c0))⟩, H.pm (Pm.nil _)⟩
  have c1p := oT c1
  refine wc_skip ?_
  refine wc_seq ?_
  refine wc_block ?_
  refine wc_seq ?_
  refine wc_still mixed (by kernel_rfl) ?_
  have Hd := H.drew
  refine ws_v rfl rfl rfl (v_move rfl) ?_
  refine ws_v rfl rfl rfl (v_move rfl) ?_
  refine ws_v rfl rfl rfl (v_idx Try.underlying51 sz3 hR.ad rfl rfl (by omega) (by omega)) ?_
  refine ws_v rfl rfl rfl (v_load one3 rfl (Hd.cell (hR.at1N (i := i) (by omega)))) ?_
  refine ws_v rfl rfl rfl (v_lss rfl rfl) ?_
  refine ws_v rfl rfl rfl (v_move rfl) ?_
  refine ws_guard rfl rfl rfl (fun g20 => ?_) (fun g20 => ?_)
  rotate_left
  ·have g20p := oT g20
   refine ws_off rfl rfl g20 rfl ?_
   refine ws_off rfl rfl g20 rfl ?_
   refine ws_off rfl rfl g20 rfl ?_
   refine ws_off rfl rfl g20 rfl ?_
   refine ws_off rfl rfl g20 rfl ?_
   refine ws_off rfl rfl g20 rfl ?_
   refine ws_off rfl rfl g20 rfl ?_
   refine ws_v rfl rfl rfl (v_pick_t rfl g20 rfl) ?_
   refine ws_nil ?_
   refine wc_cond_t rfl ?_
   refine wcR ?_
   refine wA ?_
   refine wl_nil ?_
   refine wc_ret ?_
   first
     | (have q_ := c1p
        exact ⟨_, res1 rfl rfl, _, rfl, ⟨fun _ => ⟨hG, fun j hj => ha j (by omega), by omega⟩, fun _ => rfl⟩, Hd.pm (Pm.nil _)⟩)
     | (have q_ := c1p
        exact ⟨_, res1 rfl rfl, _, rfl, ⟨fun h => by omega, fun hh => by have h_ := hh.2.1 i (by omega); omega⟩, Hd.pm (Pm.nil _)⟩)
     | exact ⟨_, res1 rfl rfl, _, rfl, ⟨fun h => by omega, fun hh => by have h_ := hh.2.2; omega⟩, Hd.pm (Pm.nil _)⟩
     | exact ⟨_, res1 rfl rfl, _, rfl, ⟨fun h => by omega, fun hh => absurd hh.1 (of_ndec (of_n_t c0))⟩, Hd.pm (Pm.nil _)⟩
  have g20p := oF g20
  refine ws_v rfl rfl rfl (v_move rfl) ?_
  refine ws_on' rfl rfl g20 ?_
  refine ws_v rfl rfl rfl (v_move rfl) ?_
  refine ws_on' rfl rfl g20 ?_
  refine ws_v rfl rfl rfl (v_idx Try.underlying51 sz3 hR.ad rfl rfl (by omega) (by omega)) ?_
  refine ws_on' rfl rfl g20 ?_
  refine ws_v rfl rfl rfl (v_load one3 rfl (Hd.cell (hR.at1N (i := i) (by omega)))) ?_
  refine ws_on' rfl rfl g20 ?_
  refine ws_v rfl rfl rfl (v_fb (o2 := 0) fa44_0 rfl rfl) ?_
  refine ws_on' rfl rfl g20 ?_
  refine ws_v rfl rfl rfl (v_load one40 rfl (Hd.at (by repeat constructor) rfl)) ?_
  refine ws_on' rfl rfl g20 ?_
  refine ws_v rfl rfl rfl (v_len Try.underlying40 rfl) ?_
  refine ws_on' rfl rfl g20 ?_
  refine ws_v rfl rfl rfl (v_geq rfl rfl) ?_
  refine ws_v rfl rfl rfl (v_pick_f rfl g20 rfl) ?_
  refine ws_nil ?_
  refine wc_cond rfl (fun c2 => ?_) (fun c2 => ?_)
  rotate_left
  ·have c2p := oF c2
   refine wc_skip ?_
   refine wc_region ?_
   refine wM ?_
   refine wV (v_addi rfl rfl (by omega)) ?_
   refine wA ?_
   refine wl_nil ?_
   exact ⟨i + 1, (sc rfl (sc rfl (sc rfl (sn _)))), ⟨⟨by omega, upto_succ ha (by omega)⟩, Hd.pm (by repeat constructor)⟩, by omega⟩
  have c2p := oT c2
  refine wcR ?_
  refine wA ?_
  refine wl_nil ?_
  refine wc_ret ?_
  first
    | (have q_ := c1p
       exact ⟨_, res1 rfl rfl, _, rfl, ⟨fun _ => ⟨hG, fun j hj => ha j (by omega), by omega⟩, fun _ => rfl⟩, Hd.pm (Pm.nil _)⟩)
    | (have q_ := c1p
       exact ⟨_, res1 rfl rfl, _, rfl, ⟨fun h => by omega, fun hh => by have h_ := hh.2.1 i (by omega); omega⟩, Hd.pm (Pm.nil _)⟩)
    | exact ⟨_, res1 rfl rfl, _, rfl, ⟨fun h => by omega, fun hh => by have h_ := hh.2.2; omega⟩, Hd.pm (Pm.nil _)⟩
    | exact ⟨_, res1 rfl rfl, _, rfl, ⟨fun h => by omega, fun hh => absurd hh.1 (of_ndec (of_n_t c0))⟩, Hd.pm (Pm.nil _)⟩

/-- An answer as a number: -1: none. -/
def ansI : Option Nat → Int
  | some a => a
  | none => -1
theorem ansI_some {o : Option Nat} (h : ¬ ansI o < 0) : ∃ a, o = some a := by
  cases o with
  | none => exact absurd (show ansI none < 0 by decide) h
  | some a => exact ⟨a, rfl⟩
theorem ansI_none {o : Option Nat} (h : ansI o < 0) : o = none := by
  cases o with
  | none => rfl
  | some a => have : ansI (some a) = (a : Int) := rfl; omega
theorem ansI_is {o : Option Nat} {n : Nat} (h : ansI o = (n : Int)) : o = some n := by
  cases o with
  | none => have : ansI none = -1 := rfl; omega
  | some a => have : ansI (some a) = (a : Int) := rfl; exact congrArg some (by omega)
def ShapeOk (g : Pl) (row : List Int) (d : Dv) : Prop := ∀ (a : PlA) (w : World) (A B : Option Addr) (k cr : Nat) (x : Int) (at_ : Nat) (hrg : g.rd w a) (hr : Rd (kTr fDv) w B d.kids) (hR : Rd (kInt .i64) w A row) (hl : row.length ≤ 65536) (hat : at_ ≤ row.length) (hx : 1 ≤ x ∧ x ≤ 4398046511104) (hcn : d.cnt ≤ 1099511627776), Calls Try.prog 70 #[.agg #[.slice a.k g.kinds.length a.ck, .slice a.p g.precs.length a.cp, .slice a.r g.rules.length a.cr, .slice a.q g.prods.length a.cq, .int .i64 g.start], .agg #[.int .i64 d.x.prod, .int .i64 d.x.tok, .slice B d.kids.length k], .int .i64 x, .int .i64 (at_ : Nat), .slice A row.length cr, .bool true] w fun e w' => ∃ v, e = .returned v ∧ v = .int .i64 (ansI (shp g row d x at_)) ∧ Holds w [] w'

set_option maxHeartbeats 6400000 in
set_option maxRecDepth 100000 in
theorem shape_step {g : Pl} {a : PlA} {row : List Int} {w : World} {A B : Option Addr} {k cr : Nat} {x : Int} {at_ : Nat} {d : Dv} (hG : GOk g) (hg : g.ok) (hrg : g.rd w a) (hr : Rd (kTr fDv) w B d.kids) (hR : Rd (kInt .i64) w A row) (hl : row.length ≤ 65536) (hat : at_ ≤ row.length) (hx : 1 ≤ x ∧ x ≤ 4398046511104) (hcn : d.cnt ≤ 1099511627776) (ih : ∀ t' ∈ d.kids, ShapeOk g row t') : Calls Try.prog 70 #[.agg #[.slice a.k g.kinds.length a.ck, .slice a.p g.precs.length a.cp, .slice a.r g.rules.length a.cr, .slice a.q g.prods.length a.cq, .int .i64 g.start], .agg #[.int .i64 d.x.prod, .int .i64 d.x.tok, .slice B d.kids.length k], .int .i64 x, .int .i64 (at_ : Nat), .slice A row.length cr, .bool true] w fun e w' => ∃ v, e = .returned v ∧ v = .int .i64 (ansI (shp g row d x at_)) ∧ Holds w [] w' := by
  have hcnt := Tr.cnt_eq d
  have hkl := Tr.cnts_len d.kids
  have hgk := hg.k
  have hgq := hg.q
  have hgr := hg.r
  refine calls_of Try.func70 rfl Try.ntmps70 rfl ?_
  have H := Holds.start w
  refine wcR ?_
  refine wl_box (cs := [_, _, _, _, _]) H rfl rfl rfl ?_
  intro b6 w1 hb6 H2
  refine wl_box (cs := [_, _, _]) H2 rfl rfl rfl ?_
  intro b7 w3 hb7 H4
  refine wA ?_
  refine wl_nil ?_
  refine wcR ?_
  refine wV (v_loadN agg44 rfl rfl (H4.ats (by repeat constructor))) ?_
  refine wM ?_
  refine wl_call en88 rfl rfl (rule_calls hg hx) ?_
  rintro _ w5 ⟨ra, rfl, hra, Hc⟩
  have H6 := H4.call0 Hc
  refine wA ?_
  refine wl_nil ?_
  refine wc_seq ?_
  refine wcR ?_
  refine wM ?_
  refine wV (v_lss rfl rfl) ?_
  refine wl_nil ?_
  refine wc_cond rfl (fun c0 => ?_) (fun c0 => ?_)
  ·have c0p := oT c0
   refine wc_seq ?_
   refine wcR ?_
   refine wV (v_loadN agg50 rfl rfl (H6.ats (by repeat constructor))) ?_
   refine wl_call en89 rfl rfl (leaf_calls) ?_
   rintro _ w7 ⟨rfl, Hc⟩
   have H8 := H6.call0 Hc
   refine wV (v_not rfl) ?_
   refine wM ?_
   refine wl_guard rfl rfl rfl (fun g23 => ?_) (fun g23 => ?_)
   rotate_left
   ·have g23p := of_n_t g23
    refine wF g23 ?_
    refine wl_offu rfl rfl rfl ?_
    refine wl_offu rfl rfl rfl ?_
    refine wl_offu rfl rfl rfl ?_
    refine wl_offu rfl rfl rfl ?_
    refine wl_offu rfl rfl rfl ?_
    refine wl_offu rfl rfl rfl ?_
    refine wl_offu rfl rfl rfl ?_
    refine wl_offu rfl rfl rfl ?_
    refine wl_offu rfl rfl rfl ?_
    refine wl_offu rfl rfl rfl ?_
    refine wl_offu rfl rfl rfl ?_
    refine wl_offu rfl rfl rfl ?_
    refine wl_offu rfl rfl rfl ?_
    refine wl_offu rfl rfl rfl ?_
    refine wl_offu rfl rfl rfl ?_
    refine wl_offu rfl rfl rfl ?_
    refine wl_offu rfl rfl rfl ?_
    refine wl_offu rfl rfl rfl ?_
    refine wF g23 ?_
    refine wV (v_pick_t rfl g23 rfl) ?_
    refine wl_nil ?_
    refine wc_cond_t rfl ?_
    refine wcR ?_
    refine wA ?_
    refine wl_nil ?_
    refine wc_ret ?_
    first
      | (have q_ := c4p
         rw [shp_node (by omega) hfit, shps_none _ _ _ (i + 1) (hss.trans (ansI_none c4p))]
         exact ⟨_, res1 rfl rfl, rfl, H8.pm (Pm.nil _)⟩)
      | (have q_ := c3p
         rw [List.take_of_length_le (by omega)] at hq
         rw [shp_node (by omega) hfit, hq]
         exact ⟨_, res1 rfl rfl, rfl, H8.pm (Pm.nil _)⟩)
      | (rw [shp_node_no (by omega) (fun hh => by unfold nodeFit at hh; omega)]
         exact ⟨_, res1 rfl rfl, rfl, H8.pm (Pm.nil _)⟩)
      | (rw [shp_leaf (by omega) (show leafOk row d.x d.kids.length x at_ from ⟨⟨of_dec g23p, by omega⟩, by omega, by have h_ := c1p; simpa using h_⟩)]
         exact ⟨_, res1 rfl rfl, rfl, H8.pm (Pm.nil _)⟩)
      | (rw [shp_leaf_no (by omega) (fun hh => by first | exact of_ndec g23p hh.1.1 | (have h1_ := hh.1.2; have h2_ := hh.2.1; first | omega | exact c1p (by simpa using hh.2.2)))]
         exact ⟨_, res1 rfl rfl, rfl, H8.pm (Pm.nil _)⟩)
   have g23p := of_n_f g23
   refine wM ?_
   refine wO g23 ?_
   refine wM ?_
   refine wO rfl ?_
   refine wV (v_fb (o2 := 1) fa50_1 rfl rfl) ?_
   refine wO rfl ?_
   refine wV (v_load one3 rfl (H8.at (by repeat constructor) rfl)) ?_
   refine wO rfl ?_
   refine wM ?_
   refine wO rfl ?_
   refine wV (v_neq rfl rfl) ?_
   refine wO rfl ?_
   refine wM ?_
   refine wl_guard rfl rfl rfl (fun g30 => ?_) (fun g30 => ?_)
   rotate_left
   ·have g30p := of_nd_t g30
    refine wF g30 ?_
    refine wF g30 ?_
    refine wF g30 ?_
    refine wO rfl ?_
    refine wV (v_pick_t rfl g30 rfl) ?_
    refine wO rfl ?_
    refine wM ?_
    refine wF rfl ?_
    refine wF rfl ?_
    refine wF rfl ?_
    refine wF rfl ?_
    refine wF rfl ?_
    refine wF rfl ?_
    refine wO rfl ?_
    refine wV (v_pick_t rfl rfl rfl) ?_
    refine wO g23 ?_
    refine wV (v_pick_t rfl rfl rfl) ?_
    refine wV (v_pick_f rfl g23 rfl) ?_
    refine wl_nil ?_
    refine wc_cond_t rfl ?_
    refine wcR ?_
    refine wA ?_
    refine wl_nil ?_
    refine wc_ret ?_
    first
      | (have q_ := c4p
         rw [shp_node (by omega) hfit, shps_none _ _ _ (i + 1) (hss.trans (ansI_none c4p))]
         exact ⟨_, res1 rfl rfl, rfl, H8.pm (Pm.nil _)⟩)
      | (have q_ := c3p
         rw [List.take_of_length_le (by omega)] at hq
         rw [shp_node (by omega) hfit, hq]
         exact ⟨_, res1 rfl rfl, rfl, H8.pm (Pm.nil _)⟩)
      | (rw [shp_node_no (by omega) (fun hh => by unfold nodeFit at hh; omega)]
         exact ⟨_, res1 rfl rfl, rfl, H8.pm (Pm.nil _)⟩)
      | (rw [shp_leaf (by omega) (show leafOk row d.x d.kids.length x at_ from ⟨⟨of_dec g23p, by omega⟩, by omega, by have h_ := c1p; simpa using h_⟩)]
         exact ⟨_, res1 rfl rfl, rfl, H8.pm (Pm.nil _)⟩)
      | (rw [shp_leaf_no (by omega) (fun hh => by first | exact of_ndec g23p hh.1.1 | (have h1_ := hh.1.2; have h2_ := hh.2.1; first | omega | exact c1p (by simpa using hh.2.2)))]
         exact ⟨_, res1 rfl rfl, rfl, H8.pm (Pm.nil _)⟩)
   have g30p := of_nd_f g30
   refine wM ?_
   refine wO g30 ?_
   refine wM ?_
   refine wO g30 ?_
   refine wV (v_len Try.underlying51 rfl) ?_
   refine wO g30 ?_
   refine wV (v_geq rfl rfl) ?_
   refine wO rfl ?_
   refine wV (v_pick_f rfl g30 rfl) ?_
   refine wO rfl ?_
   refine wM ?_
   refine wl_guard rfl rfl rfl (fun g36 => ?_) (fun g36 => ?_)
   rotate_left
   ·have g36p := oT g36
    refine wF g36 ?_
    refine wF g36 ?_
    refine wF g36 ?_
    refine wF g36 ?_
    refine wF g36 ?_
    refine wO rfl ?_
    refine wV (v_pick_t rfl g36 rfl) ?_
    refine wO g23 ?_
    refine wV (v_pick_t rfl rfl rfl) ?_
    refine wV (v_pick_f rfl g23 rfl) ?_
    refine wl_nil ?_
    refine wc_cond_t rfl ?_
    refine wcR ?_
    refine wA ?_
    refine wl_nil ?_
    refine wc_ret ?_
    first
      | (have q_ := c4p
         rw [shp_node (by omega) hfit, shps_none _ _ _ (i + 1) (hss.trans (ansI_none c4p))]
         exact ⟨_, res1 rfl rfl, rfl, H8.pm (Pm.nil _)⟩)
      | (have q_ := c3p
         rw [List.take_of_length_le (by omega)] at hq
         rw [shp_node (by omega) hfit, hq]
         exact ⟨_, res1 rfl rfl, rfl, H8.pm (Pm.nil _)⟩)
      | (rw [shp_node_no (by omega) (fun hh => by unfold nodeFit at hh; omega)]
         exact ⟨_, res1 rfl rfl, rfl, H8.pm (Pm.nil _)⟩)
      | (rw [shp_leaf (by omega) (show leafOk row d.x d.kids.length x at_ from ⟨⟨of_dec g23p, by omega⟩, by omega, by have h_ := c1p; simpa using h_⟩)]
         exact ⟨_, res1 rfl rfl, rfl, H8.pm (Pm.nil _)⟩)
      | (rw [shp_leaf_no (by omega) (fun hh => by first | exact of_ndec g23p hh.1.1 | (have h1_ := hh.1.2; have h2_ := hh.2.1; first | omega | exact c1p (by simpa using hh.2.2)))]
         exact ⟨_, res1 rfl rfl, rfl, H8.pm (Pm.nil _)⟩)
   have g36p := oF g36
   refine wM ?_
   refine wO g36 ?_
   refine wM ?_
   refine wO g36 ?_
   refine wV (v_idx Try.underlying51 sz3 hR.ad rfl rfl (by omega) (by omega)) ?_
   refine wO g36 ?_
   refine wV (v_load one3 rfl (H8.cell (hR.at1 (by omega) (by omega)))) ?_
   refine wO g36 ?_
   refine wM ?_
   refine wO g36 ?_
   refine wV (v_neq rfl rfl) ?_
   refine wO rfl ?_
   refine wV (v_pick_f rfl g36 rfl) ?_
   refine wO g23 ?_
   refine wV (v_pick_t rfl rfl rfl) ?_
   refine wV (v_pick_f rfl g23 rfl) ?_
   refine wl_nil ?_
   refine wc_cond rfl (fun c1 => ?_) (fun c1 => ?_)
   ·have c1p := of_nd_t c1
    refine wcR ?_
    refine wA ?_
    refine wl_nil ?_
    refine wc_ret ?_
    first
      | (have q_ := c4p
         rw [shp_node (by omega) hfit, shps_none _ _ _ (i + 1) (hss.trans (ansI_none c4p))]
         exact ⟨_, res1 rfl rfl, rfl, H8.pm (Pm.nil _)⟩)
      | (have q_ := c3p
         rw [List.take_of_length_le (by omega)] at hq
         rw [shp_node (by omega) hfit, hq]
         exact ⟨_, res1 rfl rfl, rfl, H8.pm (Pm.nil _)⟩)
      | (rw [shp_node_no (by omega) (fun hh => by unfold nodeFit at hh; omega)]
         exact ⟨_, res1 rfl rfl, rfl, H8.pm (Pm.nil _)⟩)
      | (rw [shp_leaf (by omega) (show leafOk row d.x d.kids.length x at_ from ⟨⟨of_dec g23p, by omega⟩, by omega, by have h_ := c1p; simpa using h_⟩)]
         exact ⟨_, res1 rfl rfl, rfl, H8.pm (Pm.nil _)⟩)
      | (rw [shp_leaf_no (by omega) (fun hh => by first | exact of_ndec g23p hh.1.1 | (have h1_ := hh.1.2; have h2_ := hh.2.1; first | omega | exact c1p (by simpa using hh.2.2)))]
         exact ⟨_, res1 rfl rfl, rfl, H8.pm (Pm.nil _)⟩)
   have c1p := of_nd_f c1
   refine wc_skip ?_
   refine wcR ?_
   refine wM ?_
   refine wV (v_addi rfl rfl (by omega)) ?_
   refine wA ?_
   refine wl_nil ?_
   refine wc_ret ?_
   first
     | (have q_ := c4p
        rw [shp_node (by omega) hfit, shps_none _ _ _ (i + 1) (hss.trans (ansI_none c4p))]
        exact ⟨_, res1 rfl rfl, rfl, H8.pm (Pm.nil _)⟩)
     | (have q_ := c3p
        rw [List.take_of_length_le (by omega)] at hq
        rw [shp_node (by omega) hfit, hq]
        exact ⟨_, res1 rfl rfl, rfl, H8.pm (Pm.nil _)⟩)
     | (rw [shp_node_no (by omega) (fun hh => by unfold nodeFit at hh; omega)]
        exact ⟨_, res1 rfl rfl, rfl, H8.pm (Pm.nil _)⟩)
     | (rw [shp_leaf (by omega) (show leafOk row d.x d.kids.length x at_ from ⟨⟨of_dec g23p, by omega⟩, by omega, by have h_ := c1p; simpa using h_⟩)]
        exact ⟨_, res1 rfl rfl, rfl, H8.pm (Pm.nil _)⟩)
     | (rw [shp_leaf_no (by omega) (fun hh => by first | exact of_ndec g23p hh.1.1 | (have h1_ := hh.1.2; have h2_ := hh.2.1; first | omega | exact c1p (by simpa using hh.2.2)))]
        exact ⟨_, res1 rfl rfl, rfl, H8.pm (Pm.nil _)⟩)
  have c0p := oF c0
  refine wc_skip ?_
  refine wc_seq ?_
  refine wc_seq ?_
  refine wc_still mixed (by kernel_rfl) ?_
  have Hd := H6.drew
  refine ws_v rfl rfl rfl (v_fb (o2 := 0) fa50_0 rfl rfl) ?_
  refine ws_v rfl rfl rfl (v_load one3 rfl (Hd.at (by repeat constructor) rfl)) ?_
  refine ws_v rfl rfl rfl (v_lss rfl rfl) ?_
  refine ws_v rfl rfl rfl (v_move rfl) ?_
  refine ws_guard rfl rfl rfl (fun g51 => ?_) (fun g51 => ?_)
  rotate_left
  ·have g51p := oT g51
   refine ws_off rfl rfl g51 rfl ?_
   refine ws_off rfl rfl g51 rfl ?_
   refine ws_off rfl rfl g51 rfl ?_
   refine ws_off rfl rfl g51 rfl ?_
   refine ws_off rfl rfl g51 rfl ?_
   refine ws_v rfl rfl rfl (v_pick_t rfl g51 rfl) ?_
   refine ws_v rfl rfl rfl (v_move rfl) ?_
   refine ws_off rfl rfl rfl rfl ?_
   refine ws_off rfl rfl rfl rfl ?_
   refine ws_off rfl rfl rfl rfl ?_
   refine ws_off rfl rfl rfl rfl ?_
   refine ws_off rfl rfl rfl rfl ?_
   refine ws_off rfl rfl rfl rfl ?_
   refine ws_off rfl rfl rfl rfl ?_
   refine ws_off rfl rfl rfl rfl ?_
   refine ws_off rfl rfl rfl rfl ?_
   refine ws_v rfl rfl rfl (v_pick_t rfl rfl rfl) ?_
   refine ws_v rfl rfl rfl (v_move rfl) ?_
   refine ws_off rfl rfl rfl rfl ?_
   refine ws_off rfl rfl rfl rfl ?_
   refine ws_off rfl rfl rfl rfl ?_
   refine ws_off rfl rfl rfl rfl ?_
   refine ws_off rfl rfl rfl rfl ?_
   refine ws_off rfl rfl rfl rfl ?_
   refine ws_off rfl rfl rfl rfl ?_
   refine ws_off rfl rfl rfl rfl ?_
   refine ws_off rfl rfl rfl rfl ?_
   refine ws_off rfl rfl rfl rfl ?_
   refine ws_off rfl rfl rfl rfl ?_
   refine ws_off rfl rfl rfl rfl ?_
   refine ws_v rfl rfl rfl (v_pick_t rfl rfl rfl) ?_
   refine ws_v rfl rfl rfl (v_move rfl) ?_
   refine ws_off rfl rfl rfl rfl ?_
   refine ws_off rfl rfl rfl rfl ?_
   refine ws_offu rfl rfl rfl ?_
   refine ws_offu rfl rfl rfl ?_
   refine ws_offu rfl rfl rfl ?_
   refine ws_off rfl rfl rfl rfl ?_
   refine ws_v rfl rfl rfl (v_pick_t rfl rfl rfl) ?_
   refine ws_nil ?_
   refine wc_cond_t rfl ?_
   refine wcR ?_
   refine wA ?_
   refine wl_nil ?_
   refine wc_ret ?_
   first
     | (have q_ := c4p
        rw [shp_node (by omega) hfit, shps_none _ _ _ (i + 1) (hss.trans (ansI_none c4p))]
        exact ⟨_, res1 rfl rfl, rfl, Hd.pm (Pm.nil _)⟩)
     | (have q_ := c3p
        rw [List.take_of_length_le (by omega)] at hq
        rw [shp_node (by omega) hfit, hq]
        exact ⟨_, res1 rfl rfl, rfl, Hd.pm (Pm.nil _)⟩)
     | (rw [shp_node_no (by omega) (fun hh => by unfold nodeFit at hh; omega)]
        exact ⟨_, res1 rfl rfl, rfl, Hd.pm (Pm.nil _)⟩)
     | (rw [shp_leaf (by omega) (show leafOk row d.x d.kids.length x at_ from ⟨⟨of_dec g23p, by omega⟩, by omega, by have h_ := c1p; simpa using h_⟩)]
        exact ⟨_, res1 rfl rfl, rfl, Hd.pm (Pm.nil _)⟩)
     | (rw [shp_leaf_no (by omega) (fun hh => by first | exact of_ndec g23p hh.1.1 | (have h1_ := hh.1.2; have h2_ := hh.2.1; first | omega | exact c1p (by simpa using hh.2.2)))]
        exact ⟨_, res1 rfl rfl, rfl, Hd.pm (Pm.nil _)⟩)
  have g51p := oF g51
  refine ws_v rfl rfl rfl (v_fb (o2 := 0) fa50_0 rfl rfl) ?_
  refine ws_on' rfl rfl g51 ?_
  refine ws_v rfl rfl rfl (v_load one3 rfl (Hd.at (by repeat constructor) rfl)) ?_
  refine ws_on' rfl rfl g51 ?_
  refine ws_v rfl rfl rfl (v_fb (o2 := 3) fa44_3 rfl rfl) ?_
  refine ws_on' rfl rfl g51 ?_
  refine ws_v rfl rfl rfl (v_load one42 rfl (Hd.at (by repeat constructor) rfl)) ?_
  refine ws_on' rfl rfl g51 ?_
  refine ws_v rfl rfl rfl (v_len Try.underlying42 rfl) ?_
  refine ws_on' rfl rfl g51 ?_
  refine ws_v rfl rfl rfl (v_geq rfl rfl) ?_
  refine ws_v rfl rfl rfl (v_pick_f rfl g51 rfl) ?_
  refine ws_v rfl rfl rfl (v_move rfl) ?_
  refine ws_guard rfl rfl rfl (fun g59 => ?_) (fun g59 => ?_)
  rotate_left
  ·have g59p := oT g59
   refine ws_off rfl rfl g59 rfl ?_
   refine ws_off rfl rfl g59 rfl ?_
   refine ws_off rfl rfl g59 rfl ?_
   refine ws_off rfl rfl g59 rfl ?_
   refine ws_off rfl rfl g59 rfl ?_
   refine ws_off rfl rfl g59 rfl ?_
   refine ws_off rfl rfl g59 rfl ?_
   refine ws_off rfl rfl g59 rfl ?_
   refine ws_v rfl rfl rfl (v_pick_t rfl g59 rfl) ?_
   refine ws_v rfl rfl rfl (v_move rfl) ?_
   refine ws_off rfl rfl rfl rfl ?_
   refine ws_off rfl rfl rfl rfl ?_
   refine ws_off rfl rfl rfl rfl ?_
   refine ws_off rfl rfl rfl rfl ?_
   refine ws_off rfl rfl rfl rfl ?_
   refine ws_off rfl rfl rfl rfl ?_
   refine ws_off rfl rfl rfl rfl ?_
   refine ws_off rfl rfl rfl rfl ?_
   refine ws_off rfl rfl rfl rfl ?_
   refine ws_off rfl rfl rfl rfl ?_
   refine ws_off rfl rfl rfl rfl ?_
   refine ws_off rfl rfl rfl rfl ?_
   refine ws_v rfl rfl rfl (v_pick_t rfl rfl rfl) ?_
   refine ws_v rfl rfl rfl (v_move rfl) ?_
   refine ws_off rfl rfl rfl rfl ?_
   refine ws_off rfl rfl rfl rfl ?_
   refine ws_offu rfl rfl rfl ?_
   refine ws_offu rfl rfl rfl ?_
   refine ws_offu rfl rfl rfl ?_
   refine ws_off rfl rfl rfl rfl ?_
   refine ws_v rfl rfl rfl (v_pick_t rfl rfl rfl) ?_
   refine ws_nil ?_
   refine wc_cond_t rfl ?_
   refine wcR ?_
   refine wA ?_
   refine wl_nil ?_
   refine wc_ret ?_
   first
     | (have q_ := c4p
        rw [shp_node (by omega) hfit, shps_none _ _ _ (i + 1) (hss.trans (ansI_none c4p))]
        exact ⟨_, res1 rfl rfl, rfl, Hd.pm (Pm.nil _)⟩)
     | (have q_ := c3p
        rw [List.take_of_length_le (by omega)] at hq
        rw [shp_node (by omega) hfit, hq]
        exact ⟨_, res1 rfl rfl, rfl, Hd.pm (Pm.nil _)⟩)
     | (rw [shp_node_no (by omega) (fun hh => by unfold nodeFit at hh; omega)]
        exact ⟨_, res1 rfl rfl, rfl, Hd.pm (Pm.nil _)⟩)
     | (rw [shp_leaf (by omega) (show leafOk row d.x d.kids.length x at_ from ⟨⟨of_dec g23p, by omega⟩, by omega, by have h_ := c1p; simpa using h_⟩)]
        exact ⟨_, res1 rfl rfl, rfl, Hd.pm (Pm.nil _)⟩)
     | (rw [shp_leaf_no (by omega) (fun hh => by first | exact of_ndec g23p hh.1.1 | (have h1_ := hh.1.2; have h2_ := hh.2.1; first | omega | exact c1p (by simpa using hh.2.2)))]
        exact ⟨_, res1 rfl rfl, rfl, Hd.pm (Pm.nil _)⟩)
  have g59p := oF g59
  refine ws_v rfl rfl rfl (v_fb (o2 := 3) fa44_3 rfl rfl) ?_
  refine ws_on' rfl rfl g59 ?_
  refine ws_v rfl rfl rfl (v_load one42 rfl (Hd.at (by repeat constructor) rfl)) ?_
  refine ws_on' rfl rfl g59 ?_
  refine ws_v rfl rfl rfl (v_fb (o2 := 0) fa50_0 rfl rfl) ?_
  refine ws_on' rfl rfl g59 ?_
  refine ws_v rfl rfl rfl (v_load one3 rfl (Hd.at (by repeat constructor) rfl)) ?_
  refine ws_on' rfl rfl g59 ?_
  refine ws_v rfl rfl rfl (v_idx Try.underlying42 sz73 hrg.q.ad rfl rfl (by omega) (by omega)) ?_
  refine ws_on' rfl rfl g59 ?_
  refine ws_v rfl rfl rfl (v_fp fa73_0 rfl) ?_
  refine ws_on' rfl rfl g59 ?_
  obtain ⟨R66_, c66_, B66_, k66_, hc66_, hl66_, hR66_, hB66_⟩ := hrg.q.atPrI (i := d.x.prod) (by omega) (by omega)
  refine ws_v rfl rfl rfl (v_load one3 rfl (Hd.cell (hc66_ 0 _ rfl))) ?_
  refine ws_on' rfl rfl g59 ?_
  refine ws_v rfl rfl rfl (v_move rfl) ?_
  refine ws_on' rfl rfl g59 ?_
  refine ws_v rfl rfl rfl (v_neq rfl rfl) ?_
  refine ws_v rfl rfl rfl (v_pick_f rfl g59 rfl) ?_
  refine ws_v rfl rfl rfl (v_move rfl) ?_
  refine ws_guard rfl rfl rfl (fun g70 => ?_) (fun g70 => ?_)
  rotate_left
  ·have g70p := of_nd_t g70
   refine ws_off rfl rfl g70 rfl ?_
   refine ws_off rfl rfl g70 rfl ?_
   refine ws_off rfl rfl g70 rfl ?_
   refine ws_off rfl rfl g70 rfl ?_
   refine ws_off rfl rfl g70 rfl ?_
   refine ws_off rfl rfl g70 rfl ?_
   refine ws_off rfl rfl g70 rfl ?_
   refine ws_off rfl rfl g70 rfl ?_
   refine ws_off rfl rfl g70 rfl ?_
   refine ws_off rfl rfl g70 rfl ?_
   refine ws_off rfl rfl g70 rfl ?_
   refine ws_v rfl rfl rfl (v_pick_t rfl g70 rfl) ?_
   refine ws_v rfl rfl rfl (v_move rfl) ?_
   refine ws_off rfl rfl rfl rfl ?_
   refine ws_off rfl rfl rfl rfl ?_
   refine ws_offu rfl rfl rfl ?_
   refine ws_offu rfl rfl rfl ?_
   refine ws_offu rfl rfl rfl ?_
   refine ws_off rfl rfl rfl rfl ?_
   refine ws_v rfl rfl rfl (v_pick_t rfl rfl rfl) ?_
   refine ws_nil ?_
   refine wc_cond_t rfl ?_
   refine wcR ?_
   refine wA ?_
   refine wl_nil ?_
   refine wc_ret ?_
   first
     | (have q_ := c4p
        rw [shp_node (by omega) hfit, shps_none _ _ _ (i + 1) (hss.trans (ansI_none c4p))]
        exact ⟨_, res1 rfl rfl, rfl, Hd.pm (Pm.nil _)⟩)
     | (have q_ := c3p
        rw [List.take_of_length_le (by omega)] at hq
        rw [shp_node (by omega) hfit, hq]
        exact ⟨_, res1 rfl rfl, rfl, Hd.pm (Pm.nil _)⟩)
     | (rw [shp_node_no (by omega) (fun hh => by unfold nodeFit at hh; omega)]
        exact ⟨_, res1 rfl rfl, rfl, Hd.pm (Pm.nil _)⟩)
     | (rw [shp_leaf (by omega) (show leafOk row d.x d.kids.length x at_ from ⟨⟨of_dec g23p, by omega⟩, by omega, by have h_ := c1p; simpa using h_⟩)]
        exact ⟨_, res1 rfl rfl, rfl, Hd.pm (Pm.nil _)⟩)
     | (rw [shp_leaf_no (by omega) (fun hh => by first | exact of_ndec g23p hh.1.1 | (have h1_ := hh.1.2; have h2_ := hh.2.1; first | omega | exact c1p (by simpa using hh.2.2)))]
        exact ⟨_, res1 rfl rfl, rfl, Hd.pm (Pm.nil _)⟩)
  have g70p := of_nd_f g70
  refine ws_v rfl rfl rfl (v_fb (o2 := 2) fa50_2 rfl rfl) ?_
  refine ws_on' rfl rfl g70 ?_
  refine ws_v rfl rfl rfl (v_load one48 rfl (Hd.at (by repeat constructor) rfl)) ?_
  refine ws_on' rfl rfl g70 ?_
  refine ws_v rfl rfl rfl (v_len Try.underlying48 rfl) ?_
  refine ws_on' rfl rfl g70 ?_
  refine ws_v rfl rfl rfl (v_fb (o2 := 3) fa44_3 rfl rfl) ?_
  refine ws_on' rfl rfl g70 ?_
  refine ws_v rfl rfl rfl (v_load one42 rfl (Hd.at (by repeat constructor) rfl)) ?_
  refine ws_on' rfl rfl g70 ?_
  refine ws_v rfl rfl rfl (v_fb (o2 := 0) fa50_0 rfl rfl) ?_
  refine ws_on' rfl rfl g70 ?_
  refine ws_v rfl rfl rfl (v_load one3 rfl (Hd.at (by repeat constructor) rfl)) ?_
  refine ws_on' rfl rfl g70 ?_
  refine ws_v rfl rfl rfl (v_idx Try.underlying42 sz73 hrg.q.ad rfl rfl (by omega) (by omega)) ?_
  refine ws_on' rfl rfl g70 ?_
  refine ws_v rfl rfl rfl (v_fp fa73_1 rfl) ?_
  refine ws_on' rfl rfl g70 ?_
  obtain ⟨R80_, c80_, B80_, k80_, hc80_, hl80_, hR80_, hB80_⟩ := hrg.q.atPrI (i := d.x.prod) (by omega) (by omega)
  refine ws_v rfl rfl rfl (v_load one51 rfl (Hd.cell (hc80_ 1 _ rfl))) ?_
  refine ws_on' rfl rfl g70 ?_
  refine ws_v rfl rfl rfl (v_len Try.underlying51 rfl) ?_
  refine ws_on' rfl rfl g70 ?_
  refine ws_v rfl rfl rfl (v_neq rfl rfl) ?_
  refine ws_v rfl rfl rfl (v_pick_f rfl g70 rfl) ?_
  refine ws_v rfl rfl rfl (v_move rfl) ?_
  refine ws_guard rfl rfl rfl (fun g84 => ?_) (fun g84 => ?_)
  rotate_left
  ·have g84p := of_nd_t g84
   refine ws_off rfl rfl g84 rfl ?_
   refine ws_offu rfl rfl rfl ?_
   refine ws_offu rfl rfl rfl ?_
   refine ws_offu rfl rfl rfl ?_
   refine ws_off rfl rfl g84 rfl ?_
   refine ws_v rfl rfl rfl (v_pick_t rfl g84 rfl) ?_
   refine ws_nil ?_
   refine wc_cond_t rfl ?_
   refine wcR ?_
   refine wA ?_
   refine wl_nil ?_
   refine wc_ret ?_
   first
     | (have q_ := c4p
        rw [shp_node (by omega) hfit, shps_none _ _ _ (i + 1) (hss.trans (ansI_none c4p))]
        exact ⟨_, res1 rfl rfl, rfl, Hd.pm (Pm.nil _)⟩)
     | (have q_ := c3p
        rw [List.take_of_length_le (by omega)] at hq
        rw [shp_node (by omega) hfit, hq]
        exact ⟨_, res1 rfl rfl, rfl, Hd.pm (Pm.nil _)⟩)
     | (rw [shp_node_no (by omega) (fun hh => by unfold nodeFit at hh; omega)]
        exact ⟨_, res1 rfl rfl, rfl, Hd.pm (Pm.nil _)⟩)
     | (rw [shp_leaf (by omega) (show leafOk row d.x d.kids.length x at_ from ⟨⟨of_dec g23p, by omega⟩, by omega, by have h_ := c1p; simpa using h_⟩)]
        exact ⟨_, res1 rfl rfl, rfl, Hd.pm (Pm.nil _)⟩)
     | (rw [shp_leaf_no (by omega) (fun hh => by first | exact of_ndec g23p hh.1.1 | (have h1_ := hh.1.2; have h2_ := hh.2.1; first | omega | exact c1p (by simpa using hh.2.2)))]
        exact ⟨_, res1 rfl rfl, rfl, Hd.pm (Pm.nil _)⟩)
  have g84p := of_nd_f g84
  refine ws_v rfl rfl rfl (v_move rfl) ?_
  refine ws_on' rfl rfl g84 ?_
  refine ws_v rfl rfl rfl (v_move rfl) ?_
  refine ws_on' rfl rfl rfl ?_
  refine ws_v rfl rfl rfl (v_fb (o2 := 1) fa50_1 rfl rfl) ?_
  refine ws_on' rfl rfl rfl ?_
  refine ws_v rfl rfl rfl (v_load one3 rfl (Hd.at (by repeat constructor) rfl)) ?_
  refine ws_on' rfl rfl rfl ?_
  refine ws_v rfl rfl rfl (v_neq rfl rfl) ?_
  refine ws_on' rfl rfl g84 ?_
  refine ws_v rfl rfl rfl (v_pick_t rfl rfl rfl) ?_
  refine ws_v rfl rfl rfl (v_pick_f rfl g84 rfl) ?_
  refine ws_nil ?_
  refine wc_cond rfl (fun c2 => ?_) (fun c2 => ?_)
  ·have c2p := of_nd_t c2
   refine wcR ?_
   refine wA ?_
   refine wl_nil ?_
   refine wc_ret ?_
   first
     | (have q_ := c4p
        rw [shp_node (by omega) hfit, shps_none _ _ _ (i + 1) (hss.trans (ansI_none c4p))]
        exact ⟨_, res1 rfl rfl, rfl, Hd.pm (Pm.nil _)⟩)
     | (have q_ := c3p
        rw [List.take_of_length_le (by omega)] at hq
        rw [shp_node (by omega) hfit, hq]
        exact ⟨_, res1 rfl rfl, rfl, Hd.pm (Pm.nil _)⟩)
     | (rw [shp_node_no (by omega) (fun hh => by unfold nodeFit at hh; omega)]
        exact ⟨_, res1 rfl rfl, rfl, Hd.pm (Pm.nil _)⟩)
     | (rw [shp_leaf (by omega) (show leafOk row d.x d.kids.length x at_ from ⟨⟨of_dec g23p, by omega⟩, by omega, by have h_ := c1p; simpa using h_⟩)]
        exact ⟨_, res1 rfl rfl, rfl, Hd.pm (Pm.nil _)⟩)
     | (rw [shp_leaf_no (by omega) (fun hh => by first | exact of_ndec g23p hh.1.1 | (have h1_ := hh.1.2; have h2_ := hh.2.1; first | omega | exact c1p (by simpa using hh.2.2)))]
        exact ⟨_, res1 rfl rfl, rfl, Hd.pm (Pm.nil _)⟩)
  have c2p := of_nd_f c2
  have hfit : nodeFit g d.x d.kids.length x := ⟨⟨⟨by omega, by omega⟩, by omega⟩, by omega, by omega⟩
  have hpok := hG.2.2 d.x.prod.toNat (by omega)
  have hpl := hpok.1
  refine wc_skip ?_
  refine wc_seq ?_
  refine wcR ?_
  refine wA ?_
  refine wl_nil ?_
  refine wc_block ?_
  refine wc_loop (σ := Nat × Nat) (fun s => [(3, .int .i64 ((s.2 : Nat) : Int)), (4, .slice A row.length cr), (5, .bool true), (6, .pointer (some ⟨b6, 0, none⟩)), (7, .pointer (some ⟨b7, 0, none⟩)), (14, .int .i64 s.1)]) (fun s W => (s.1 ≤ d.kids.length ∧ shps g row (d.kids.take s.1) (g.prods.getD d.x.prod.toNat pr0).right at_ = some s.2) ∧ Holds w [Blk b7 50 [.int .i64 d.x.prod, .int .i64 d.x.tok, .slice B d.kids.length k], Blk b6 44 [.slice a.k g.kinds.length a.ck, .slice a.p g.precs.length a.cp, .slice a.r g.rules.length a.cr, .slice a.q g.prods.length a.cq, .int .i64 g.start]] W) (fun s => d.kids.length - s.1) (0, at_) (sc rfl (sc rfl (sc rfl (sc rfl (sc rfl (sc rfl (sn _))))))) ⟨⟨Nat.zero_le _, by rw [List.take_zero]; exact shps_nil _ _⟩, Hd⟩ ?_
  rintro ⟨i, q⟩ W0 ⟨⟨hi, hq⟩, H⟩
  dsimp only at hi hq H ⊢
  have hqle := (shps_le _ _ _ _ hq).2 hat
  refine wc_seq ?_
  refine wcR ?_
  refine wM ?_
  refine wV (v_fb (o2 := 2) fa50_2 rfl rfl) ?_
  refine wV (v_load one48 rfl (H.at (by repeat constructor) rfl)) ?_
  refine wV (v_len Try.underlying48 rfl) ?_
  refine wV (v_lss rfl rfl) ?_
  refine wl_nil ?_
  refine wc_cond rfl (fun c3 => ?_) (fun c3 => ?_)
  rotate_left
  ·have c3p := oF c3
   refine wc_exit ?_
   refine wcR ?_
   refine wM ?_
   refine wA ?_
   refine wl_nil ?_
   refine wc_ret ?_
   first
     | (have q_ := c4p
        rw [shp_node (by omega) hfit, shps_none _ _ _ (i + 1) (hss.trans (ansI_none c4p))]
        exact ⟨_, res1 rfl rfl, rfl, H.pm (Pm.nil _)⟩)
     | (have q_ := c3p
        rw [List.take_of_length_le (by omega)] at hq
        rw [shp_node (by omega) hfit, hq]
        exact ⟨_, res1 rfl rfl, rfl, H.pm (Pm.nil _)⟩)
     | (rw [shp_node_no (by omega) (fun hh => by unfold nodeFit at hh; omega)]
        exact ⟨_, res1 rfl rfl, rfl, H.pm (Pm.nil _)⟩)
     | (rw [shp_leaf (by omega) (show leafOk row d.x d.kids.length x at_ from ⟨⟨of_dec g23p, by omega⟩, by omega, by have h_ := c1p; simpa using h_⟩)]
        exact ⟨_, res1 rfl rfl, rfl, H.pm (Pm.nil _)⟩)
     | (rw [shp_leaf_no (by omega) (fun hh => by first | exact of_ndec g23p hh.1.1 | (have h1_ := hh.1.2; have h2_ := hh.2.1; first | omega | exact c1p (by simpa using hh.2.2)))]
        exact ⟨_, res1 rfl rfl, rfl, H.pm (Pm.nil _)⟩)
  have c3p := oT c3
  refine wc_skip ?_
  refine wc_seq ?_
  refine wc_block ?_
  refine wc_seq ?_
  refine wc_tree [0, 1, 2, 3, 4, 5, 6, 7, 8, 9, 10, 11, 12, 13, 14, 15, 16, 17, 18, 20] (fun W => Holds w [Blk b7 50 [.int .i64 d.x.prod, .int .i64 d.x.tok, .slice B d.kids.length k], Blk b6 44 [.slice a.k g.kinds.length a.ck, .slice a.p g.precs.length a.cp, .slice a.r g.rules.length a.cr, .slice a.q g.prods.length a.cq, .int .i64 g.start]] W) mixed ?_
  have Hd := H.drew
  have HSd : Holds w [Blk b7 50 [.int .i64 d.x.prod, .int .i64 d.x.tok, .slice B d.kids.length k], Blk b6 44 [.slice a.k g.kinds.length a.ck, .slice a.p g.precs.length a.cp, .slice a.r g.rules.length a.cr, .slice a.q g.prods.length a.cq, .int .i64 g.start]] _ := Hd.pm (by repeat constructor)
  refine wjV (k := 0) rfl HSd (fun W HW => v_loadN agg44 rfl rfl (HW.ats (by repeat constructor))) ?_
  refine wjV (k := 1) rfl HSd (fun W HW => v_fb (o2 := 2) fa50_2 rfl rfl) ?_
  refine wjV (k := 2) rfl HSd (fun W HW => v_load one48 rfl (HW.at (by repeat constructor) rfl)) ?_
  refine wjV (k := 3) rfl HSd (fun W HW => v_move rfl) ?_
  refine wjV (k := 4) rfl HSd (fun W HW => v_idx Try.underlying48 sz50 hr.ad rfl rfl (by omega) (by omega)) ?_
  obtain ⟨B104_, k104_, hc104_, hl104_, hr104_⟩ := hr.atTr dv0 (i := i) (by omega)
  refine wjV (k := 5) rfl HSd (fun W HW => v_loadN (cs := [.int .i64 (d.kids.getD i dv0).x.prod, .int .i64 (d.kids.getD i dv0).x.tok, .slice B104_ (d.kids.getD i dv0).kids.length k104_]) agg50 rfl rfl (fun q_ u_ hu_ => HW.cell (hc104_ q_ u_ hu_))) ?_
  refine wjV (k := 6) rfl HSd (fun W HW => v_fb (o2 := 3) fa44_3 rfl rfl) ?_
  refine wjV (k := 7) rfl HSd (fun W HW => v_load one42 rfl (HW.at (by repeat constructor) rfl)) ?_
  refine wjV (k := 8) rfl HSd (fun W HW => v_fb (o2 := 0) fa50_0 rfl rfl) ?_
  refine wjV (k := 9) rfl HSd (fun W HW => v_load one3 rfl (HW.at (by repeat constructor) rfl)) ?_
  refine wjV (k := 10) rfl HSd (fun W HW => v_idx Try.underlying42 sz73 hrg.q.ad rfl rfl (by omega) (by omega)) ?_
  refine wjV (k := 11) rfl HSd (fun W HW => v_fp fa73_1 rfl) ?_
  obtain ⟨R111_, c111_, B111_, k111_, hc111_, hl111_, hR111_, hB111_⟩ := hrg.q.atPrI (i := d.x.prod) (by omega) (by omega)
  refine wjV (k := 12) rfl HSd (fun W HW => v_load one51 rfl (HW.cell (hc111_ 1 _ rfl))) ?_
  refine wjV (k := 13) rfl HSd (fun W HW => v_move rfl) ?_
  refine wjV (k := 14) rfl HSd (fun W HW => v_idx Try.underlying51 sz3 hR111_.ad rfl rfl (by omega) (by omega)) ?_
  refine wjV (k := 15) rfl HSd (fun W HW => v_load one3 rfl (HW.cell (hR111_.at1N (i := i) (by omega)))) ?_
  refine wjV (k := 16) rfl HSd (fun W HW => v_move rfl) ?_
  refine wjV (k := 17) rfl HSd (fun W HW => v_move rfl) ?_
  refine wjV (k := 18) rfl HSd (fun W HW => v_move rfl) ?_
  refine wj_t (k := 19) rfl (by kernel_rfl) ?_
  refine wl_call en70 rfl rfl (ih _ (getD_mem (z := dv0) (show i < d.kids.length by omega)) a _ A _ _ cr _ q (hrg.below Hd.old) (hr104_.below Hd.old) (hR.below Hd.old) hl hqle (by have h_ := hpok.2.1 i (by omega); omega) (by have h_ := Tr.cnts_succ dv0 d.kids i (by omega); have h2_ := Tr.cnts_take d.kids (i + 1); omega)) ?_
  rintro _ w9 ⟨rfl, Hc⟩
  have H10 := Hd.call0 Hc
  have hss := shps_succ (g := g) (row := row) d.kids (g.prods.getD d.x.prod.toNat pr0).right at_ i (by omega)
  rw [hq] at hss
  rw [show (some q).bind (shp g row (d.kids.getD i dv0) ((g.prods.getD d.x.prod.toNat pr0).right.getD i 0)) = shp g row (d.kids.getD i dv0) ((g.prods.getD d.x.prod.toNat pr0).right.getD i 0) q from rfl] at hss
  have HS11 : Holds w [Blk b7 50 [.int .i64 d.x.prod, .int .i64 d.x.tok, .slice B d.kids.length k], Blk b6 44 [.slice a.k g.kinds.length a.ck, .slice a.p g.precs.length a.cp, .slice a.r g.rules.length a.cr, .slice a.q g.prods.length a.cq, .int .i64 g.start]] _ := H10.pm (by repeat constructor)
  refine wl_nil (tn ⟨fun _ => HS11, ?_⟩)
  refine wjV (k := 20) rfl HS11 (fun W HW => v_assign rfl) ?_
  refine wj_done (by kernel_rfl) ?_
  refine wcR ?_
  refine wM ?_
  refine wV (v_lss rfl rfl) ?_
  refine wl_nil ?_
  refine wc_cond rfl (fun c4 => ?_) (fun c4 => ?_)
  rotate_left
  ·have c4p := oF c4
   refine wc_skip ?_
   refine wc_region ?_
   refine wM ?_
   refine wV (v_addi rfl rfl (by omega)) ?_
   refine wA ?_
   refine wl_nil ?_
   obtain ⟨q2, hq2⟩ := ansI_some c4p
   rw [hq2]
   exact ⟨(i + 1, q2), (sc rfl (sc rfl (sc rfl (sc rfl (sc rfl (sc rfl (sn _))))))), ⟨⟨by dsimp only; omega, hss.trans hq2⟩, H10⟩, by dsimp only; omega⟩
  have c4p := oT c4
  refine wcR ?_
  refine wA ?_
  refine wl_nil ?_
  refine wc_ret ?_
  first
    | (have q_ := c4p
       rw [shp_node (by omega) hfit, shps_none _ _ _ (i + 1) (hss.trans (ansI_none c4p))]
       exact ⟨_, res1 rfl rfl, rfl, H10.pm (Pm.nil _)⟩)
    | (have q_ := c3p
       rw [List.take_of_length_le (by omega)] at hq
       rw [shp_node (by omega) hfit, hq]
       exact ⟨_, res1 rfl rfl, rfl, H10.pm (Pm.nil _)⟩)
    | (rw [shp_node_no (by omega) (fun hh => by unfold nodeFit at hh; omega)]
       exact ⟨_, res1 rfl rfl, rfl, H10.pm (Pm.nil _)⟩)
    | (rw [shp_leaf (by omega) (show leafOk row d.x d.kids.length x at_ from ⟨⟨of_dec g23p, by omega⟩, by omega, by have h_ := c1p; simpa using h_⟩)]
       exact ⟨_, res1 rfl rfl, rfl, H10.pm (Pm.nil _)⟩)
    | (rw [shp_leaf_no (by omega) (fun hh => by first | exact of_ndec g23p hh.1.1 | (have h1_ := hh.1.2; have h2_ := hh.2.1; first | omega | exact c1p (by simpa using hh.2.2)))]
       exact ⟨_, res1 rfl rfl, rfl, H10.pm (Pm.nil _)⟩)

theorem shape_calls {g : Pl} {row : List Int} (hG : GOk g) (hg : g.ok) : ∀ d : Dv, ShapeOk g row d := Tr.ind fun y kids ih => fun a w A B k cr x at_ hrg hr hR hl hat hx hcn => shape_step (d := .mk y kids) hG hg hrg hr hR hl hat hx hcn ih

set_option maxHeartbeats 3200000 in
set_option maxRecDepth 100000 in
theorem rdcheck_calls {g : Pl} {a : PlA} {row : List Int} {w : World} {A B : Option Addr} {k cr : Nat} {d : Dv} (hg : g.ok) (hrg : g.rd w a) (hr : Rd (kTr fDv) w B d.kids) (hR : Rd (kInt .i64) w A row) (hl : row.length ≤ 1099511627776) (hcn : d.cnt ≤ 1099511627776) :
    Calls Try.prog 43 #[.agg #[.slice a.k g.kinds.length a.ck, .slice a.p g.precs.length a.cp, .slice a.r g.rules.length a.cr, .slice a.q g.prods.length a.cq, .int .i64 g.start], .agg #[.int .i64 d.x.prod, .int .i64 d.x.tok, .slice B d.kids.length k], .slice A row.length cr] w fun e w' => ∃ v, e = .returned v ∧ v = .bool (dec (DrvOk g d row)) ∧ Holds w [] w' := by
  have hgk := hg.k
  have hgr := hg.r
  refine calls_of Try.func43 rfl Try.ntmps43 rfl ?_
  have H := Holds.start w
  refine wcR ?_
  refine wl_box (cs := [_, _, _, _, _]) H rfl rfl rfl ?_
  intro b3 w1 hb3 H2
  refine wl_box (cs := [_, _, _]) H2 rfl rfl rfl ?_
  intro b4 w3 hb4 H4
  refine wA ?_
  refine wl_nil ?_
  refine wcR ?_
  refine wV (v_loadN agg44 rfl rfl (H4.ats (by repeat constructor))) ?_
  refine wM ?_
  refine wl_call en69 rfl rfl (refuse_calls (hrg.below H4.old) hg (hR.below H4.old) hl) ?_
  rintro _ w5 ⟨q, rfl, hq, Hc⟩
  have H6 := H4.call0 Hc
  refine wV (v_eql rfl rfl) ?_
  refine wM ?_
  refine wl_guard rfl rfl rfl (fun g11 => ?_) (fun g11 => ?_)
  rotate_left
  ·have g11p := oF g11
   refine wF g11 ?_
   refine wF g11 ?_
   refine wF g11 ?_
   refine wF g11 ?_
   refine wF g11 ?_
   refine wF g11 ?_
   refine wF g11 ?_
   refine wF g11 ?_
   refine wF g11 ?_
   refine wF g11 ?_
   refine wF g11 ?_
   refine wF g11 ?_
   refine wV (v_pick_f rfl g11 rfl) ?_
   refine wA ?_
   refine wl_nil ?_
   refine wc_ret ?_
   first
     | (have q_ := hst
        exact ⟨_, res1 rfl rfl, congrArg Value.bool (dec_eq ⟨fun hd => ⟨(hq.1 g11p).1, (hq.1 g11p).2.2, ansI_is (of_decide_eq_true hd)⟩, fun hh => decide_eq_true (by rw [hh.2.2]; rfl)⟩), H6.pm (Pm.nil _)⟩)
     | exact ⟨_, res1 rfl rfl, congrArg Value.bool (dec_f fun hh => g11p (hq.2 ⟨hh.1, hh.rowAt, hh.2.1⟩)).symm, H6.pm (Pm.nil _)⟩
  have g11p := oT g11
  have hst := (hq.1 g11p).1.2.1.1
  refine wV (v_loadN agg44 rfl rfl (H6.ats (by repeat constructor))) ?_
  refine wO g11 ?_
  refine wV (v_loadN agg50 rfl rfl (H6.ats (by repeat constructor))) ?_
  refine wO g11 ?_
  refine wV (v_fb (o2 := 0) fa44_0 rfl rfl) ?_
  refine wO g11 ?_
  refine wV (v_load one40 rfl (H6.at (by repeat constructor) rfl)) ?_
  refine wO g11 ?_
  refine wV (v_len Try.underlying40 rfl) ?_
  refine wO g11 ?_
  refine wV (v_fb (o2 := 4) fa44_4 rfl rfl) ?_
  refine wO g11 ?_
  refine wV (v_load one3 rfl (H6.at (by repeat constructor) rfl)) ?_
  refine wO g11 ?_
  refine wV (v_addi rfl rfl (by omega)) ?_
  refine wO g11 ?_
  refine wM ?_
  refine wO g11 ?_
  refine wl_call en70 rfl rfl (shape_calls (hq.1 g11p).1 hg d a _ A B k cr (g.kinds.length + g.start) 0 (hrg.below H6.old) (hr.below H6.old) (hR.below H6.old) (hq.1 g11p).2.2 (Nat.zero_le _) (by have h_ := (hq.1 g11p).1.1.1.1; omega) hcn) ?_
  rintro _ w7 ⟨rfl, Hc⟩
  have H8 := H6.call0 Hc
  refine wO g11 ?_
  refine wM ?_
  refine wO g11 ?_
  refine wV (v_len Try.underlying51 rfl) ?_
  refine wO g11 ?_
  refine wV (v_eql rfl rfl) ?_
  refine wV (v_pick_t rfl g11 rfl) ?_
  refine wA ?_
  refine wl_nil ?_
  refine wc_ret ?_
  first
    | (have q_ := hst
       exact ⟨_, res1 rfl rfl, congrArg Value.bool (dec_eq ⟨fun hd => ⟨(hq.1 g11p).1, (hq.1 g11p).2.2, ansI_is (of_decide_eq_true hd)⟩, fun hh => decide_eq_true (by rw [hh.2.2]; rfl)⟩), H8.pm (Pm.nil _)⟩)
    | exact ⟨_, res1 rfl rfl, congrArg Value.bool (dec_f fun hh => g11p (hq.2 ⟨hh.1, hh.rowAt, hh.2.1⟩)).symm, H8.pm (Pm.nil _)⟩
end Go.Proofs.Ytgdemplcpcacaaa.RCheck
