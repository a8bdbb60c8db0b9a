/- Which grammars may be. -/
import Derived.Test.YtgdemplcpcacaaaProg
import Derived.Test.YtgdemplcpcacaaaK07
import Derived.Test.YtgdemplcpcacaaaK08
import Derived.Test.YtgdemplcpcacaaaK02
import Derived.Test.YtgdemplcpcacaaaK03
set_option linter.unusedVariables false
set_option linter.unusedSimpArgs false
/-! Which grammars may be. -/
namespace Go.Proofs.Ytgdemplcpcacaaa.GramW
open Go Go.RowKit Go.Proofs.YtgdemplcpcacaaaFx Go.Proofs.Ytgdemplcpcacaaa.PartsW Go.Proofs.Ytgdemplcpcacaaa.KindsW
theorem agg145 : Agg Try.prog 145 2 := agg_of Try.underlying145 (by kernel_rfl)
theorem agg44 : Agg Try.prog 44 5 := agg_of Try.underlying44 (by kernel_rfl)
theorem agg69 : Agg Try.prog 69 4 := agg_of Try.underlying69 (by kernel_rfl)
theorem agg73 : Agg Try.prog 73 7 := agg_of Try.underlying73 (by kernel_rfl)
theorem ba145 : BuildAt Try.prog 145 [.int .i64 0, .int .i64 0] [(0, 1), (1, 1)] := build_at Try.underlying145 (by kernel_rfl) (by kernel_rfl)
theorem en60 : Enters Try.prog 60 := enters Try.func60 (by kernel_rfl) rfl
theorem en61 : Enters Try.prog 61 := enters Try.func61 (by kernel_rfl) rfl
theorem en83 : Enters Try.prog 83 := enters Try.func83 (by kernel_rfl) rfl
theorem en84 : Enters Try.prog 84 := enters Try.func84 (by kernel_rfl) rfl
theorem en85 : Enters Try.prog 85 := enters Try.func85 (by kernel_rfl) rfl
theorem en86 : Enters Try.prog 86 := enters Try.func86 (by kernel_rfl) rfl
theorem en87 : Enters Try.prog 87 := enters Try.func87 (by kernel_rfl) rfl
theorem en96 : Enters Try.prog 96 := enters Try.func96 (by kernel_rfl) rfl
theorem eqm145 : EqlMv Try.prog 145 := eql_mv (e := 3) Try.underlying145 (by kernel_rfl) (by kernel_rfl) Try.underlying3 rfl rfl
theorem fa145_0 : FieldAt Try.prog 145 0 0 := field_at (sz := 0) Try.underlying145 rfl (by kernel_rfl) rfl
theorem fa145_1 : FieldAt Try.prog 145 1 1 := field_at (sz := 0) Try.underlying145 rfl (by kernel_rfl) rfl
theorem fa44_0 : FieldAt Try.prog 44 0 0 := field_at (sz := 0) Try.underlying44 rfl (by kernel_rfl) rfl
theorem fa44_1 : FieldAt Try.prog 44 1 1 := field_at (sz := 0) Try.underlying44 rfl (by kernel_rfl) rfl
theorem fa44_2 : FieldAt Try.prog 44 2 2 := field_at (sz := 0) Try.underlying44 rfl (by kernel_rfl) rfl
theorem fa44_3 : FieldAt Try.prog 44 3 3 := field_at (sz := 0) Try.underlying44 rfl (by kernel_rfl) rfl
theorem fa44_4 : FieldAt Try.prog 44 4 4 := field_at (sz := 0) Try.underlying44 rfl (by kernel_rfl) rfl
theorem fa73_0 : FieldAt Try.prog 73 0 0 := field_at (sz := 0) Try.underlying73 rfl (by kernel_rfl) rfl
theorem fa73_1 : FieldAt Try.prog 73 1 1 := field_at (sz := 0) Try.underlying73 rfl (by kernel_rfl) rfl
theorem fa73_2 : FieldAt Try.prog 73 2 2 := field_at (sz := 0) Try.underlying73 rfl (by kernel_rfl) rfl
theorem fa73_3 : FieldAt Try.prog 73 3 3 := field_at (sz := 3) Try.underlying73 rfl (by kernel_rfl) rfl
theorem mixed : Try.prog.follows .mixedOrders = true := by kernel_rfl
theorem one3 : One Try.prog 3 := one_of Try.underlying3 rfl (by kernel_rfl)
theorem one40 : One Try.prog 40 := one_of Try.underlying40 rfl (by kernel_rfl)
theorem one41 : One Try.prog 41 := one_of Try.underlying41 rfl (by kernel_rfl)
theorem one42 : One Try.prog 42 := one_of Try.underlying42 rfl (by kernel_rfl)
theorem one51 : One Try.prog 51 := one_of Try.underlying51 rfl (by kernel_rfl)
theorem one9 : One Try.prog 9 := one_of Try.underlying9 rfl (by kernel_rfl)
theorem sz145 : ∀ W, (sizeOf 145).run Try.prog W = .ok 2 W := size_of (by kernel_rfl)
theorem sz3 : ∀ W, (sizeOf 3).run Try.prog W = .ok 1 W := size_of (by kernel_rfl)
theorem sz73 : ∀ W, (sizeOf 73).run Try.prog W = .ok 7 W := size_of (by kernel_rfl)
theorem sz9 : ∀ W, (sizeOf 9).run Try.prog W = .ok 1 W := size_of (by kernel_rfl)
theorem zv145 : ∀ W, (zeroValue 145).run Try.prog W = .ok (.agg #[.int .i64 0, .int .i64 0]) W := zero_of (by kernel_rfl)
theorem zv3 : ∀ W, (zeroValue 3).run Try.prog W = .ok (.int .i64 0) W := zero_of (by kernel_rfl)
theorem zv4 : ∀ W, (zeroValue 4).run Try.prog W = .ok (.bool false) W := zero_of (by kernel_rfl)
theorem zv73 : ∀ W, (zeroValue 73).run Try.prog W = .ok (.agg #[.int .i64 0, .slice none 0 0, .int .i64 0, .int .i64 0, .int .i64 0, .string ⟨#[]⟩, .slice none 0 0]) W := zero_of (by kernel_rfl)

set_option maxHeartbeats 3200000 in
set_option maxRecDepth 100000 in
theorem prod_calls {g : Pl} {a : PlA} {p : Pr} {R B : Option Addr} {c k : Nat} {w : World} (hg : g.ok) (hl : p.right.length ≤ c ∧ p.act.kids.length ≤ k) (hR : Rd (kInt .i64) w R p.right) (hB : Rd (kTr fAc) w B p.act.kids) (hpl : p.right.length ≤ 1099511627776) (hpc : p.act.cnt ≤ 1099511627776) :
    Calls Try.prog 61 #[.agg #[.slice a.k g.kinds.length a.ck, .slice a.p g.precs.length a.cp, .slice a.r g.rules.length a.cr, .slice a.q g.prods.length a.cq, .int .i64 g.start], .agg #[.int .i64 p.left, .slice R p.right.length c, .int .i64 p.level, .int .i64 p.act.x.kind, .int .i64 p.act.x.at_, .string p.act.x.name, .slice B p.act.kids.length k]] w fun e w' => ∃ v, e = .returned v ∧ v = .bool (dec (PrOk g p)) ∧ Holds w [] w' := by
  have hgk := hg.k
  have hgr := hg.r
  refine calls_of Try.func61 rfl Try.ntmps61 rfl ?_
  have H := Holds.start w
  refine wcR ?_
  refine wl_box (cs := [_, _, _, _, _]) H rfl rfl rfl ?_
  intro b2 w1 hb2 H2
  refine wl_box (cs := [_, _, _, _, _, _, _]) H2 rfl rfl rfl ?_
  intro b3 w3 hb3 H4
  refine wA ?_
  refine wl_nil ?_
  refine wc_seq ?_
  refine wc_cut (σ := Bool) (fun q => [(2, .pointer (some ⟨b2, 0, none⟩)), (3, .pointer (some ⟨b3, 0, none⟩)), (29, .bool q)]) (fun q W => q = dec (p.left < 0 ∨ (g.rules.length : Int) ≤ p.left ∨ 64 < p.right.length ∨ p.level < 0) ∧ Holds w [Blk b3 73 [.int .i64 p.left, .slice R p.right.length c, .int .i64 p.level, .int .i64 p.act.x.kind, .int .i64 p.act.x.at_, .string p.act.x.name, .slice B p.act.kids.length k], Blk b2 44 [.slice a.k g.kinds.length a.ck, .slice a.p g.precs.length a.cp, .slice a.r g.rules.length a.cr, .slice a.q g.prods.length a.cq, .int .i64 g.start]] W) ?_ ?_
  ·refine wc_region ?_
   refine wV (v_fb (o2 := 0) fa73_0 rfl rfl) ?_
   refine wV (v_load one3 rfl (H4.at (by repeat constructor) rfl)) ?_
   refine wV (v_lss rfl rfl) ?_
   refine wM ?_
   refine wl_guard rfl rfl rfl (fun g11 => ?_) (fun g11 => ?_)
   rotate_left
   ·have g11p := oT g11
    refine wF g11 ?_
    refine wF g11 ?_
    refine wF g11 ?_
    refine wF g11 ?_
    refine wF g11 ?_
    refine wV (v_pick_t rfl g11 rfl) ?_
    refine wM ?_
    refine wF rfl ?_
    refine wF rfl ?_
    refine wF rfl ?_
    refine wF rfl ?_
    refine wV (v_pick_t rfl rfl rfl) ?_
    refine wM ?_
    refine wF rfl ?_
    refine wF rfl ?_
    refine wF rfl ?_
    refine wV (v_pick_t rfl rfl rfl) ?_
    refine wl_nil ?_
    first
      | exact ⟨_, (sc rfl (sc rfl (sc rfl (sn _)))), ⟨dec_eq ⟨fun hd => by (have h_ := oT hd; omega), fun hh => decide_eq_true (by omega)⟩, H4⟩⟩
      | exact ⟨_, (sc rfl (sc rfl (sc rfl (sn _)))), ⟨(dec_t (by omega)).symm, H4⟩⟩
   have g11p := oF g11
   refine wV (v_fb (o2 := 0) fa73_0 rfl rfl) ?_
   refine wO g11 ?_
   refine wV (v_load one3 rfl (H4.at (by repeat constructor) rfl)) ?_
   refine wO g11 ?_
   refine wV (v_fb (o2 := 2) fa44_2 rfl rfl) ?_
   refine wO g11 ?_
   refine wV (v_load one40 rfl (H4.at (by repeat constructor) rfl)) ?_
   refine wO g11 ?_
   refine wV (v_len Try.underlying40 rfl) ?_
   refine wO g11 ?_
   refine wV (v_geq rfl rfl) ?_
   refine wV (v_pick_f rfl g11 rfl) ?_
   refine wM ?_
   refine wl_guard rfl rfl rfl (fun g19 => ?_) (fun g19 => ?_)
   rotate_left
   ·have g19p := oT g19
    refine wF g19 ?_
    refine wF g19 ?_
    refine wF g19 ?_
    refine wV (v_pick_t rfl g19 rfl) ?_
    refine wM ?_
    refine wF rfl ?_
    refine wF rfl ?_
    refine wF rfl ?_
    refine wV (v_pick_t rfl rfl rfl) ?_
    refine wl_nil ?_
    first
      | exact ⟨_, (sc rfl (sc rfl (sc rfl (sn _)))), ⟨dec_eq ⟨fun hd => by (have h_ := oT hd; omega), fun hh => decide_eq_true (by omega)⟩, H4⟩⟩
      | exact ⟨_, (sc rfl (sc rfl (sc rfl (sn _)))), ⟨(dec_t (by omega)).symm, H4⟩⟩
   have g19p := oF g19
   refine wV (v_fb (o2 := 1) fa73_1 rfl rfl) ?_
   refine wO g19 ?_
   refine wV (v_load one51 rfl (H4.at (by repeat constructor) rfl)) ?_
   refine wO g19 ?_
   refine wV (v_len Try.underlying51 rfl) ?_
   refine wO g19 ?_
   refine wV (v_gtr rfl rfl) ?_
   refine wV (v_pick_f rfl g19 rfl) ?_
   refine wM ?_
   refine wl_guard rfl rfl rfl (fun g25 => ?_) (fun g25 => ?_)
   rotate_left
   ·have g25p := oT g25
    refine wF g25 ?_
    refine wF g25 ?_
    refine wV (v_pick_t rfl g25 rfl) ?_
    refine wl_nil ?_
    first
      | exact ⟨_, (sc rfl (sc rfl (sc rfl (sn _)))), ⟨dec_eq ⟨fun hd => by (have h_ := oT hd; omega), fun hh => decide_eq_true (by omega)⟩, H4⟩⟩
      | exact ⟨_, (sc rfl (sc rfl (sc rfl (sn _)))), ⟨(dec_t (by omega)).symm, H4⟩⟩
   have g25p := oF g25
   refine wV (v_fb (o2 := 2) fa73_2 rfl rfl) ?_
   refine wO g25 ?_
   refine wV (v_load one3 rfl (H4.at (by repeat constructor) rfl)) ?_
   refine wO g25 ?_
   refine wV (v_lss rfl rfl) ?_
   refine wV (v_pick_f rfl g25 rfl) ?_
   refine wl_nil ?_
   first
     | exact ⟨_, (sc rfl (sc rfl (sc rfl (sn _)))), ⟨dec_eq ⟨fun hd => by (have h_ := oT hd; omega), fun hh => decide_eq_true (by omega)⟩, H4⟩⟩
     | exact ⟨_, (sc rfl (sc rfl (sc rfl (sn _)))), ⟨(dec_t (by omega)).symm, H4⟩⟩
  rintro bad Wm ⟨hbad, H⟩
  refine wc_cond rfl (fun c0 => ?_) (fun c0 => ?_)
  ·have hno : ¬ ((0 ≤ p.left ∧ p.left < g.rules.length) ∧ p.right.length ≤ 64 ∧ 0 ≤ p.level) := by (have h_ := of_dec (hbad.symm.trans c0); omega)
   refine wcR ?_
   refine wA ?_
   refine wl_nil ?_
   refine wc_ret ?_
   first
     | exact ⟨_, res1 rfl rfl, congrArg Value.bool (dec_f fun hh => hno hh.1).symm, H.pm (Pm.nil _)⟩
     | exact ⟨_, res1 rfl rfl, congrArg Value.bool (dec_f fun hh => by have h_ := hh.2.1 i (by omega); omega).symm, H.pm (Pm.nil _)⟩
     | exact ⟨_, res1 rfl rfl, congrArg Value.bool (dec_iff ⟨fun hh => ⟨hyes, fun j hj => ha j (by omega), hh.1, by omega⟩, fun hh => ⟨hh.2.2.1, by have h_ := hh.2.2.2; omega⟩⟩), H.pm (Pm.nil _)⟩
  have hyes : (0 ≤ p.left ∧ p.left < g.rules.length) ∧ p.right.length ≤ 64 ∧ 0 ≤ p.level := by (have h_ := of_ndec (hbad.symm.trans c0); omega)
  refine wc_skip ?_
  refine wc_seq ?_
  refine wcR ?_
  refine wV (v_fb (o2 := 1) fa73_1 rfl rfl) ?_
  refine wV (v_load one51 rfl (H.at (by repeat constructor) rfl)) ?_
  refine wV (v_len Try.underlying51 rfl) ?_
  refine wM ?_
  refine wl_nil ?_
  refine wc_block ?_
  refine wc_loop (σ := Nat) (fun s => [(2, .pointer (some ⟨b2, 0, none⟩)), (3, .pointer (some ⟨b3, 0, none⟩)), (31, .slice R p.right.length c), (32, .int .i64 p.right.length), (33, .int .i64 s)]) (fun s W => s ≤ p.right.length ∧ (∀ j, j < s → 1 ≤ p.right.getD j 0 ∧ p.right.getD j 0 < g.kinds.length + g.rules.length) ∧ Holds w [Blk b3 73 [.int .i64 p.left, .slice R p.right.length c, .int .i64 p.level, .int .i64 p.act.x.kind, .int .i64 p.act.x.at_, .string p.act.x.name, .slice B p.act.kids.length k], Blk b2 44 [.slice a.k g.kinds.length a.ck, .slice a.p g.precs.length a.cp, .slice a.r g.rules.length a.cr, .slice a.q g.prods.length a.cq, .int .i64 g.start]] W) (fun s => p.right.length - s) 0 (sc rfl (sc rfl (sc rfl (sc rfl (sc rfl (sn _)))))) ⟨Nat.zero_le _, upto_zero, H⟩ ?_
  rintro i W0 ⟨hi, ha, H⟩
  refine wcR ?_
  refine wV (v_lss rfl rfl) ?_
  refine wl_nil ?_
  refine wc_seq ?_
  refine wc_cond rfl (fun c1 => ?_) (fun c1 => ?_)
  rotate_left
  ·have c1p := oF c1
   refine wc_exit ?_
   refine wcR ?_
   refine wl_alloc (cs := [.int .i64 0]) H rfl zv3 rfl ?_
   intro b7 w5 hb7 H6
   refine wl_store (vs := [_]) H6 (by repeat constructor) sz3 rfl rfl rfl rfl rfl (by (repeat constructor)) ?_
   intro w7 H8 hw7
   refine wl_nil ?_
   refine wcR ?_
   refine wV (v_fb (o2 := 3) fa73_3 rfl rfl) ?_
   refine wV (v_loadN (cs := [_, _, _, _]) agg69 rfl rfl (H8.atsN (k := 4) (by repeat constructor) rfl)) ?_
   refine wV (v_fb (o2 := 1) fa73_1 rfl rfl) ?_
   refine wV (v_load one51 rfl (H8.at (by repeat constructor) rfl)) ?_
   refine wV (v_len Try.underlying51 rfl) ?_
   refine wl_call en83 rfl rfl (parts_calls p.act w _ _ B b7 k 0 p.right.length hl.2 hB (by omega) H8) ?_
   rintro _ w9 ⟨m, rfl, _, Hc⟩
   have H10 := Hc
   refine wA ?_
   refine wl_nil ?_
   refine wc_ret ?_
   first
     | exact ⟨_, res1 rfl rfl, congrArg Value.bool (dec_f fun hh => hno hh.1).symm, H10.pm (Pm.nil _)⟩
     | exact ⟨_, res1 rfl rfl, congrArg Value.bool (dec_f fun hh => by have h_ := hh.2.1 i (by omega); omega).symm, H10.pm (Pm.nil _)⟩
     | exact ⟨_, res1 rfl rfl, congrArg Value.bool (dec_iff ⟨fun hh => ⟨hyes, fun j hj => ha j (by omega), hh.1, by omega⟩, fun hh => ⟨hh.2.2.1, by have h_ := hh.2.2.2; omega⟩⟩), H10.pm (Pm.nil _)⟩
  have c1p := oT c1
  refine wc_skip ?_
  refine wc_seq ?_
  refine wc_block ?_
  refine wcR ?_
  refine wV (v_idx Try.underlying51 sz3 hR.ad rfl rfl (by omega) (by omega)) ?_
  refine wV (v_load one3 rfl (H.cell (hR.at1N (i := i) (by omega)))) ?_
  refine wA ?_
  refine wl_nil ?_
  refine wcR ?_
  refine wM ?_
  refine wV (v_lss rfl rfl) ?_
  refine wM ?_
  refine wl_guard rfl rfl rfl (fun g39 => ?_) (fun g39 => ?_)
  rotate_left
  ·have g39p := oT g39
   refine wF g39 ?_
   refine wF g39 ?_
   refine wF g39 ?_
   refine wF g39 ?_
   refine wF g39 ?_
   refine wF g39 ?_
   refine wF g39 ?_
   refine wF g39 ?_
   refine wV (v_pick_t rfl g39 rfl) ?_
   refine wl_nil ?_
   refine wc_cond_t rfl ?_
   refine wcR ?_
   refine wA ?_
   refine wl_nil ?_
   refine wc_ret ?_
   first
     | exact ⟨_, res1 rfl rfl, congrArg Value.bool (dec_f fun hh => hno hh.1).symm, H.pm (Pm.nil _)⟩
     | exact ⟨_, res1 rfl rfl, congrArg Value.bool (dec_f fun hh => by have h_ := hh.2.1 i (by omega); omega).symm, H.pm (Pm.nil _)⟩
     | exact ⟨_, res1 rfl rfl, congrArg Value.bool (dec_iff ⟨fun hh => ⟨hyes, fun j hj => ha j (by omega), hh.1, by omega⟩, fun hh => ⟨hh.2.2.1, by have h_ := hh.2.2.2; omega⟩⟩), H.pm (Pm.nil _)⟩
  have g39p := oF g39
  refine wM ?_
  refine wO g39 ?_
  refine wV (v_fb (o2 := 0) fa44_0 rfl rfl) ?_
  refine wO g39 ?_
  refine wV (v_load one40 rfl (H.at (by repeat constructor) rfl)) ?_
  refine wO g39 ?_
  refine wV (v_len Try.underlying40 rfl) ?_
  refine wO g39 ?_
  refine wV (v_fb (o2 := 2) fa44_2 rfl rfl) ?_
  refine wO g39 ?_
  refine wV (v_load one40 rfl (H.at (by repeat constructor) rfl)) ?_
  refine wO g39 ?_
  refine wV (v_len Try.underlying40 rfl) ?_
  refine wO g39 ?_
  refine wV (v_addi rfl rfl (by omega)) ?_
  refine wO g39 ?_
  refine wV (v_geq rfl rfl) ?_
  refine wV (v_pick_f rfl g39 rfl) ?_
  refine wl_nil ?_
  refine wc_cond rfl (fun c2 => ?_) (fun c2 => ?_)
  rotate_left
  ·have c2p := oF c2
   refine wc_skip ?_
   refine wc_region ?_
   refine wV (v_addi rfl rfl (by omega)) ?_
   refine wM ?_
   refine wl_nil ?_
   exact ⟨i + 1, (sc rfl (sc rfl (sc rfl (sc rfl (sc rfl (sn _)))))), ⟨by omega, upto_succ ha (by omega), H⟩, by omega⟩
  have c2p := oT c2
  refine wcR ?_
  refine wA ?_
  refine wl_nil ?_
  refine wc_ret ?_
  first
    | exact ⟨_, res1 rfl rfl, congrArg Value.bool (dec_f fun hh => hno hh.1).symm, H.pm (Pm.nil _)⟩
    | exact ⟨_, res1 rfl rfl, congrArg Value.bool (dec_f fun hh => by have h_ := hh.2.1 i (by omega); omega).symm, H.pm (Pm.nil _)⟩
    | exact ⟨_, res1 rfl rfl, congrArg Value.bool (dec_iff ⟨fun hh => ⟨hyes, fun j hj => ha j (by omega), hh.1, by omega⟩, fun hh => ⟨hh.2.2.1, by have h_ := hh.2.2.2; omega⟩⟩), H.pm (Pm.nil _)⟩

set_option maxHeartbeats 3200000 in
set_option maxRecDepth 100000 in
theorem rprod_calls {g : Pl} {a : PlA} {p : Pr} {R B : Option Addr} {c k : Nat} {w : World} (hg : g.ok) (hl : p.right.length ≤ c ∧ p.act.kids.length ≤ k) (hR : Rd (kInt .i64) w R p.right) (hB : Rd (kTr fAc) w B p.act.kids) (hpl : p.right.length ≤ 1099511627776) (hpc : p.act.cnt ≤ 1099511627776) :
    Calls Try.prog 87 #[.agg #[.slice a.k g.kinds.length a.ck, .slice a.p g.precs.length a.cp, .slice a.r g.rules.length a.cr, .slice a.q g.prods.length a.cq, .int .i64 g.start], .agg #[.int .i64 p.left, .slice R p.right.length c, .int .i64 p.level, .int .i64 p.act.x.kind, .int .i64 p.act.x.at_, .string p.act.x.name, .slice B p.act.kids.length k]] w fun e w' => ∃ v, e = .returned v ∧ v = .bool (dec (PrOk g p)) ∧ Holds w [] w' := by
  have hgk := hg.k
  have hgr := hg.r
  refine calls_of Try.func87 rfl Try.ntmps87 rfl ?_
  have H := Holds.start w
  refine wcR ?_
  refine wl_box (cs := [_, _, _, _, _]) H rfl rfl rfl ?_
  intro b2 w1 hb2 H2
  refine wl_box (cs := [_, _, _, _, _, _, _]) H2 rfl rfl rfl ?_
  intro b3 w3 hb3 H4
  refine wA ?_
  refine wl_nil ?_
  refine wc_seq ?_
  refine wc_cut (σ := Bool) (fun q => [(2, .pointer (some ⟨b2, 0, none⟩)), (3, .pointer (some ⟨b3, 0, none⟩)), (27, .bool q)]) (fun q W => q = dec (p.left < 0 ∨ (g.rules.length : Int) ≤ p.left ∨ 64 < p.right.length ∨ p.level < 0) ∧ Holds w [Blk b3 73 [.int .i64 p.left, .slice R p.right.length c, .int .i64 p.level, .int .i64 p.act.x.kind, .int .i64 p.act.x.at_, .string p.act.x.name, .slice B p.act.kids.length k], Blk b2 44 [.slice a.k g.kinds.length a.ck, .slice a.p g.precs.length a.cp, .slice a.r g.rules.length a.cr, .slice a.q g.prods.length a.cq, .int .i64 g.start]] W) ?_ ?_
  ·refine wc_region ?_
   refine wV (v_fb (o2 := 0) fa73_0 rfl rfl) ?_
   refine wV (v_load one3 rfl (H4.at (by repeat constructor) rfl)) ?_
   refine wV (v_lss rfl rfl) ?_
   refine wM ?_
   refine wl_guard rfl rfl rfl (fun g9 => ?_) (fun g9 => ?_)
   rotate_left
   ·have g9p := oT g9
    refine wF g9 ?_
    refine wF g9 ?_
    refine wF g9 ?_
    refine wF g9 ?_
    refine wF g9 ?_
    refine wV (v_pick_t rfl g9 rfl) ?_
    refine wM ?_
    refine wF rfl ?_
    refine wF rfl ?_
    refine wF rfl ?_
    refine wF rfl ?_
    refine wV (v_pick_t rfl rfl rfl) ?_
    refine wM ?_
    refine wF rfl ?_
    refine wF rfl ?_
    refine wF rfl ?_
    refine wV (v_pick_t rfl rfl rfl) ?_
    refine wl_nil ?_
    first
      | exact ⟨_, (sc rfl (sc rfl (sc rfl (sn _)))), ⟨dec_eq ⟨fun hd => by (have h_ := oT hd; omega), fun hh => decide_eq_true (by omega)⟩, H4⟩⟩
      | exact ⟨_, (sc rfl (sc rfl (sc rfl (sn _)))), ⟨(dec_t (by omega)).symm, H4⟩⟩
   have g9p := oF g9
   refine wV (v_fb (o2 := 0) fa73_0 rfl rfl) ?_
   refine wO g9 ?_
   refine wV (v_load one3 rfl (H4.at (by repeat constructor) rfl)) ?_
   refine wO g9 ?_
   refine wV (v_fb (o2 := 2) fa44_2 rfl rfl) ?_
   refine wO g9 ?_
   refine wV (v_load one40 rfl (H4.at (by repeat constructor) rfl)) ?_
   refine wO g9 ?_
   refine wV (v_len Try.underlying40 rfl) ?_
   refine wO g9 ?_
   refine wV (v_geq rfl rfl) ?_
   refine wV (v_pick_f rfl g9 rfl) ?_
   refine wM ?_
   refine wl_guard rfl rfl rfl (fun g17 => ?_) (fun g17 => ?_)
   rotate_left
   ·have g17p := oT g17
    refine wF g17 ?_
    refine wF g17 ?_
    refine wF g17 ?_
    refine wV (v_pick_t rfl g17 rfl) ?_
    refine wM ?_
    refine wF rfl ?_
    refine wF rfl ?_
    refine wF rfl ?_
    refine wV (v_pick_t rfl rfl rfl) ?_
    refine wl_nil ?_
    first
      | exact ⟨_, (sc rfl (sc rfl (sc rfl (sn _)))), ⟨dec_eq ⟨fun hd => by (have h_ := oT hd; omega), fun hh => decide_eq_true (by omega)⟩, H4⟩⟩
      | exact ⟨_, (sc rfl (sc rfl (sc rfl (sn _)))), ⟨(dec_t (by omega)).symm, H4⟩⟩
   have g17p := oF g17
   refine wV (v_fb (o2 := 1) fa73_1 rfl rfl) ?_
   refine wO g17 ?_
   refine wV (v_load one51 rfl (H4.at (by repeat constructor) rfl)) ?_
   refine wO g17 ?_
   refine wV (v_len Try.underlying51 rfl) ?_
   refine wO g17 ?_
   refine wV (v_gtr rfl rfl) ?_
   refine wV (v_pick_f rfl g17 rfl) ?_
   refine wM ?_
   refine wl_guard rfl rfl rfl (fun g23 => ?_) (fun g23 => ?_)
   rotate_left
   ·have g23p := oT g23
    refine wF g23 ?_
    refine wF g23 ?_
    refine wV (v_pick_t rfl g23 rfl) ?_
    refine wl_nil ?_
    first
      | exact ⟨_, (sc rfl (sc rfl (sc rfl (sn _)))), ⟨dec_eq ⟨fun hd => by (have h_ := oT hd; omega), fun hh => decide_eq_true (by omega)⟩, H4⟩⟩
      | exact ⟨_, (sc rfl (sc rfl (sc rfl (sn _)))), ⟨(dec_t (by omega)).symm, H4⟩⟩
   have g23p := oF g23
   refine wV (v_fb (o2 := 2) fa73_2 rfl rfl) ?_
   refine wO g23 ?_
   refine wV (v_load one3 rfl (H4.at (by repeat constructor) rfl)) ?_
   refine wO g23 ?_
   refine wV (v_lss rfl rfl) ?_
   refine wV (v_pick_f rfl g23 rfl) ?_
   refine wl_nil ?_
   first
     | exact ⟨_, (sc rfl (sc rfl (sc rfl (sn _)))), ⟨dec_eq ⟨fun hd => by (have h_ := oT hd; omega), fun hh => decide_eq_true (by omega)⟩, H4⟩⟩
     | exact ⟨_, (sc rfl (sc rfl (sc rfl (sn _)))), ⟨(dec_t (by omega)).symm, H4⟩⟩
  rintro bad Wm ⟨hbad, H⟩
  refine wc_cond rfl (fun c0 => ?_) (fun c0 => ?_)
  ·have hno : ¬ ((0 ≤ p.left ∧ p.left < g.rules.length) ∧ p.right.length ≤ 64 ∧ 0 ≤ p.level) := by (have h_ := of_dec (hbad.symm.trans c0); omega)
   refine wcR ?_
   refine wA ?_
   refine wl_nil ?_
   refine wc_ret ?_
   first
     | exact ⟨_, res1 rfl rfl, congrArg Value.bool (dec_f fun hh => hno hh.1).symm, H.pm (Pm.nil _)⟩
     | exact ⟨_, res1 rfl rfl, congrArg Value.bool (dec_f fun hh => by have h_ := hh.2.1 i (by omega); omega).symm, H.pm (Pm.nil _)⟩
     | exact ⟨_, res1 rfl rfl, congrArg Value.bool (dec_eq ⟨fun hd => (by
         have h_ := oT hd
         rcases Classical.em (p.act.All (nodeOk p.right.length) ∧ (p.act.cnt : Int) ≤ 256) with hA | hA
         · exact ⟨hyes, fun j hj => ha j (by omega), hA⟩
         · rw [leftA_f hA] at h_; omega), fun hh => decide_eq_true (by have h_ := hh.2.2; rw [leftA_t h_]; have := h_.2; omega)⟩), H.pm (Pm.nil _)⟩
  have hyes : (0 ≤ p.left ∧ p.left < g.rules.length) ∧ p.right.length ≤ 64 ∧ 0 ≤ p.level := by (have h_ := of_ndec (hbad.symm.trans c0); omega)
  refine wc_skip ?_
  refine wc_seq ?_
  refine wcR ?_
  refine wA ?_
  refine wl_nil ?_
  refine wc_block ?_
  refine wc_loop (σ := Nat) (fun s => [(2, .pointer (some ⟨b2, 0, none⟩)), (3, .pointer (some ⟨b3, 0, none⟩)), (5, .int .i64 s)]) (fun s W => s ≤ p.right.length ∧ (∀ j, j < s → 1 ≤ p.right.getD j 0 ∧ p.right.getD j 0 < g.kinds.length + g.rules.length) ∧ Holds w [Blk b3 73 [.int .i64 p.left, .slice R p.right.length c, .int .i64 p.level, .int .i64 p.act.x.kind, .int .i64 p.act.x.at_, .string p.act.x.name, .slice B p.act.kids.length k], Blk b2 44 [.slice a.k g.kinds.length a.ck, .slice a.p g.precs.length a.cp, .slice a.r g.rules.length a.cr, .slice a.q g.prods.length a.cq, .int .i64 g.start]] W) (fun s => p.right.length - s) 0 (sc rfl (sc rfl (sc rfl (sn _)))) ⟨Nat.zero_le _, upto_zero, H⟩ ?_
  rintro i W0 ⟨hi, ha, H⟩
  refine wc_seq ?_
  refine wcR ?_
  refine wM ?_
  refine wV (v_fb (o2 := 1) fa73_1 rfl rfl) ?_
  refine wV (v_load one51 rfl (H.at (by repeat constructor) rfl)) ?_
  refine wV (v_len Try.underlying51 rfl) ?_
  refine wV (v_lss rfl rfl) ?_
  refine wl_nil ?_
  refine wc_cond rfl (fun c1 => ?_) (fun c1 => ?_)
  rotate_left
  ·have c1p := oF c1
   refine wc_exit ?_
   refine wcR ?_
   refine wV (v_fb (o2 := 3) fa73_3 rfl rfl) ?_
   refine wV (v_loadN (cs := [_, _, _, _]) agg69 rfl rfl (H.atsN (k := 4) (by repeat constructor) rfl)) ?_
   refine wV (v_fb (o2 := 1) fa73_1 rfl rfl) ?_
   refine wV (v_load one51 rfl (H.at (by repeat constructor) rfl)) ?_
   refine wV (v_len Try.underlying51 rfl) ?_
   refine wl_call en96 rfl rfl (rparts_calls p.act _ B k 256 p.right.length hl.2 (hB.below H.old) (by omega) hpc) ?_
   rintro _ w5 ⟨rfl, Hc⟩
   have H6 := H.call0 Hc
   refine wV (v_geq rfl rfl) ?_
   refine wA ?_
   refine wl_nil ?_
   refine wc_ret ?_
   first
     | exact ⟨_, res1 rfl rfl, congrArg Value.bool (dec_f fun hh => hno hh.1).symm, H6.pm (Pm.nil _)⟩
     | exact ⟨_, res1 rfl rfl, congrArg Value.bool (dec_f fun hh => by have h_ := hh.2.1 i (by omega); omega).symm, H6.pm (Pm.nil _)⟩
     | exact ⟨_, res1 rfl rfl, congrArg Value.bool (dec_eq ⟨fun hd => (by
         have h_ := oT hd
         rcases Classical.em (p.act.All (nodeOk p.right.length) ∧ (p.act.cnt : Int) ≤ 256) with hA | hA
         · exact ⟨hyes, fun j hj => ha j (by omega), hA⟩
         · rw [leftA_f hA] at h_; omega), fun hh => decide_eq_true (by have h_ := hh.2.2; rw [leftA_t h_]; have := h_.2; omega)⟩), H6.pm (Pm.nil _)⟩
  have c1p := oT c1
  refine wc_skip ?_
  refine wc_seq ?_
  refine wc_block ?_
  refine wc_seq ?_
  refine wc_still mixed (by kernel_rfl) ?_
  have Hd := H.drew
  refine ws_v rfl rfl rfl (v_fb (o2 := 1) fa73_1 rfl rfl) ?_
  refine ws_v rfl rfl rfl (v_load one51 rfl (Hd.at (by repeat constructor) rfl)) ?_
  refine ws_v rfl rfl rfl (v_move rfl) ?_
  refine ws_v rfl rfl rfl (v_idx Try.underlying51 sz3 hR.ad rfl rfl (by omega) (by omega)) ?_
  refine ws_v rfl rfl rfl (v_load one3 rfl (Hd.cell (hR.at1N (i := i) (by omega)))) ?_
  refine ws_v rfl rfl rfl (v_lss rfl rfl) ?_
  refine ws_v rfl rfl rfl (v_move rfl) ?_
  refine ws_guard rfl rfl rfl (fun g41 => ?_) (fun g41 => ?_)
  rotate_left
  ·have g41p := oT g41
   refine ws_off rfl rfl g41 rfl ?_
   refine ws_off rfl rfl g41 rfl ?_
   refine ws_off rfl rfl g41 rfl ?_
   refine ws_off rfl rfl g41 rfl ?_
   refine ws_off rfl rfl g41 rfl ?_
   refine ws_off rfl rfl g41 rfl ?_
   refine ws_off rfl rfl g41 rfl ?_
   refine ws_off rfl rfl g41 rfl ?_
   refine ws_off rfl rfl g41 rfl ?_
   refine ws_off rfl rfl g41 rfl ?_
   refine ws_off rfl rfl g41 rfl ?_
   refine ws_off rfl rfl g41 rfl ?_
   refine ws_v rfl rfl rfl (v_pick_t rfl g41 rfl) ?_
   refine ws_nil ?_
   refine wc_cond_t rfl ?_
   refine wcR ?_
   refine wA ?_
   refine wl_nil ?_
   refine wc_ret ?_
   first
     | exact ⟨_, res1 rfl rfl, congrArg Value.bool (dec_f fun hh => hno hh.1).symm, Hd.pm (Pm.nil _)⟩
     | exact ⟨_, res1 rfl rfl, congrArg Value.bool (dec_f fun hh => by have h_ := hh.2.1 i (by omega); omega).symm, Hd.pm (Pm.nil _)⟩
     | exact ⟨_, res1 rfl rfl, congrArg Value.bool (dec_eq ⟨fun hd => (by
         have h_ := oT hd
         rcases Classical.em (p.act.All (nodeOk p.right.length) ∧ (p.act.cnt : Int) ≤ 256) with hA | hA
         · exact ⟨hyes, fun j hj => ha j (by omega), hA⟩
         · rw [leftA_f hA] at h_; omega), fun hh => decide_eq_true (by have h_ := hh.2.2; rw [leftA_t h_]; have := h_.2; omega)⟩), Hd.pm (Pm.nil _)⟩
  have g41p := oF g41
  refine ws_v rfl rfl rfl (v_fb (o2 := 1) fa73_1 rfl rfl) ?_
  refine ws_on' rfl rfl g41 ?_
  refine ws_v rfl rfl rfl (v_load one51 rfl (Hd.at (by repeat constructor) rfl)) ?_
  refine ws_on' rfl rfl g41 ?_
  refine ws_v rfl rfl rfl (v_move rfl) ?_
  refine ws_on' rfl rfl g41 ?_
  refine ws_v rfl rfl rfl (v_idx Try.underlying51 sz3 hR.ad rfl rfl (by omega) (by omega)) ?_
  refine ws_on' rfl rfl g41 ?_
  refine ws_v rfl rfl rfl (v_load one3 rfl (Hd.cell (hR.at1N (i := i) (by omega)))) ?_
  refine ws_on' rfl rfl g41 ?_
  refine ws_v rfl rfl rfl (v_fb (o2 := 0) fa44_0 rfl rfl) ?_
  refine ws_on' rfl rfl g41 ?_
  refine ws_v rfl rfl rfl (v_load one40 rfl (Hd.at (by repeat constructor) rfl)) ?_
  refine ws_on' rfl rfl g41 ?_
  refine ws_v rfl rfl rfl (v_len Try.underlying40 rfl) ?_
  refine ws_on' rfl rfl g41 ?_
  refine ws_v rfl rfl rfl (v_fb (o2 := 2) fa44_2 rfl rfl) ?_
  refine ws_on' rfl rfl g41 ?_
  refine ws_v rfl rfl rfl (v_load one40 rfl (Hd.at (by repeat constructor) rfl)) ?_
  refine ws_on' rfl rfl g41 ?_
  refine ws_v rfl rfl rfl (v_len Try.underlying40 rfl) ?_
  refine ws_on' rfl rfl g41 ?_
  refine ws_v rfl rfl rfl (v_addi rfl rfl (by omega)) ?_
  refine ws_on' rfl rfl g41 ?_
  refine ws_v rfl rfl rfl (v_geq rfl rfl) ?_
  refine ws_v rfl rfl rfl (v_pick_f rfl g41 rfl) ?_
  refine ws_nil ?_
  refine wc_cond rfl (fun c2 => ?_) (fun c2 => ?_)
  rotate_left
  ·have c2p := oF c2
   refine wc_skip ?_
   refine wc_region ?_
   refine wM ?_
   refine wV (v_addi rfl rfl (by omega)) ?_
   refine wA ?_
   refine wl_nil ?_
   exact ⟨i + 1, (sc rfl (sc rfl (sc rfl (sn _)))), ⟨by omega, upto_succ ha (by omega), Hd⟩, by omega⟩
  have c2p := oT c2
  refine wcR ?_
  refine wA ?_
  refine wl_nil ?_
  refine wc_ret ?_
  first
    | exact ⟨_, res1 rfl rfl, congrArg Value.bool (dec_f fun hh => hno hh.1).symm, Hd.pm (Pm.nil _)⟩
    | exact ⟨_, res1 rfl rfl, congrArg Value.bool (dec_f fun hh => by have h_ := hh.2.1 i (by omega); omega).symm, Hd.pm (Pm.nil _)⟩
    | exact ⟨_, res1 rfl rfl, congrArg Value.bool (dec_eq ⟨fun hd => (by
        have h_ := oT hd
        rcases Classical.em (p.act.All (nodeOk p.right.length) ∧ (p.act.cnt : Int) ≤ 256) with hA | hA
        · exact ⟨hyes, fun j hj => ha j (by omega), hA⟩
        · rw [leftA_f hA] at h_; omega), fun hh => decide_eq_true (by have h_ := hh.2.2; rw [leftA_t h_]; have := h_.2; omega)⟩), Hd.pm (Pm.nil _)⟩

theorem okStep {E : Prop} {p : Nat → Prop} {i : Nat} {ok v : Bool} (h : ok = dec (E ∧ ∀ j, j < i → p j)) (hv : v = true ↔ ok = true ∧ p i) : v = dec (E ∧ ∀ j, j < i + 1 → p j) :=
  dec_eq (hv.trans ⟨fun hh => by have h1 := of_dec (h.symm.trans hh.1); exact ⟨h1.1, upto_succ h1.2 hh.2⟩, fun hh => ⟨h.trans (dec_t ⟨hh.1, fun j hj => hh.2 j (by omega)⟩), hh.2 i (by omega)⟩⟩)
theorem okStart {E : Prop} {p : Nat → Prop} {ok : Bool} (h : ok = dec E) : ok = dec (E ∧ ∀ j, j < 0 → p j) := h.trans (dec_iff ⟨fun hh => ⟨hh, upto_zero⟩, fun hh => hh.1⟩)
theorem okFin {E F : Prop} {p : Nat → Prop} {i n : Nat} {ok : Bool} (h : ok = dec (E ∧ ∀ j, j < i → p j)) (hi : ¬ ((i : Int) < n)) (hle : i ≤ n) (hF : F ↔ ∀ j, j < n → p j) : ok = dec (E ∧ F) := by
  have : i = n := by omega
  subst this
  exact h.trans (dec_iff ⟨fun hh => ⟨hh.1, hF.2 hh.2⟩, fun hh => ⟨hh.1, hF.1 hh.2⟩⟩)
theorem mvz (m : Mv) : decide (m = ⟨0, 0⟩) = decide (m.d = 0 ∧ m.n = 0) := decide_eq_decide.2 ⟨fun h => by rw [h]; exact ⟨rfl, rfl⟩, fun h => by
  cases m
  obtain ⟨rfl, rfl⟩ := h
  rfl⟩
theorem kE0 {p : Prop} (h : (if dec p then (0 : Int) else 70) = 0) : p := by
  rcases Classical.em p with hp | hp
  · exact hp
  · rw [dec_f hp] at h
    simp at h
def E0 (g : Pl) : Prop := KindsOk g.kinds ∧ g.precs.length = g.kinds.length
def E1 (g : Pl) : Prop := (E0 g ∧ PrecsOk g.precs) ∧ (1 ≤ g.rules.length ∧ g.rules.length ≤ 2048) ∧ (0 ≤ g.start ∧ g.start < g.rules.length) ∧ g.prods.length ≤ 4096
def ruleOk (g : Pl) (i : Nat) : Prop := (1 ≤ (g.rules.getD i ByteArray.empty).size ∧ (g.rules.getD i ByteArray.empty).size ≤ 4096) ∧ Dist g.rules i
theorem gok_iff (g : Pl) : GOk g ↔ (E1 g ∧ ∀ i, i < g.rules.length → ruleOk g i) ∧ ∀ i, i < g.prods.length → PrOk g (g.prods.getD i pr0) :=
  ⟨fun ⟨⟨h1, h2, h3, h4, h5⟩, ⟨h6, h7⟩, h8⟩ => ⟨⟨⟨⟨⟨h1, h2⟩, h3⟩, h4, h6, h7⟩, h5⟩, h8⟩, fun ⟨⟨⟨⟨⟨h1, h2⟩, h3⟩, h4, h6, h7⟩, h5⟩, h8⟩ => ⟨⟨h1, h2, h3, h4, h5⟩, ⟨h6, h7⟩, h8⟩⟩

set_option maxHeartbeats 6400000 in
set_option maxRecDepth 100000 in
theorem gcheck_calls {g : Pl} {a : PlA} {w : World} (hr : g.rd w a) (hg : g.ok) :
    Calls Try.prog 34 #[.agg #[.slice a.k g.kinds.length a.ck, .slice a.p g.precs.length a.cp, .slice a.r g.rules.length a.cr, .slice a.q g.prods.length a.cq, .int .i64 g.start]] w fun e w' => ∃ v, e = .returned v ∧ v = .int .i64 (checkG g) ∧ Holds w [] w' := by
  have hgk := hg.k
  have hgr := hg.r
  have hgp := hg.p
  have hgq := hg.q
  refine calls_of Try.func34 rfl Try.ntmps34 rfl ?_
  have H := Holds.start w
  refine wcR ?_
  refine wl_box (cs := [_, _, _, _, _]) H rfl rfl rfl ?_
  intro b1 w1 hb1 H2
  refine wA ?_
  refine wl_nil ?_
  refine wc_cut (σ := Bool) (fun q => [(1, .pointer (some ⟨b1, 0, none⟩)), (3, .bool q)]) (fun q W => q = dec (E0 g) ∧ Holds w [Blk b1 44 [.slice a.k g.kinds.length a.ck, .slice a.p g.precs.length a.cp, .slice a.r g.rules.length a.cr, .slice a.q g.prods.length a.cq, .int .i64 g.start]] W) ?_ ?_
  ·refine wc_region ?_
   refine wV (v_fb (o2 := 0) fa44_0 rfl rfl) ?_
   refine wV (v_load one40 rfl (H2.at (by repeat constructor) rfl)) ?_
   refine wl_call en60 rfl rfl (kinds_calls (hr.k.below H2.old) hg.k hg.ks) ?_
   rintro _ w3 ⟨rfl, Hc⟩
   have H4 := H2.call0 Hc
   refine wV (v_eql rfl rfl) ?_
   refine wM ?_
   refine wl_guard rfl rfl rfl (fun g17 => ?_) (fun g17 => ?_)
   rotate_left
   ·have g17p := oF g17
    refine wF g17 ?_
    refine wF g17 ?_
    refine wF g17 ?_
    refine wF g17 ?_
    refine wF g17 ?_
    refine wF g17 ?_
    refine wV (v_pick_f rfl g17 rfl) ?_
    refine wA ?_
    refine wl_nil ?_
    first
      | exact ⟨_, (sc rfl (sc rfl (sn _))), ⟨dec_eq ⟨fun hd => ⟨kE0 g17p, by (have h_ := oT hd; omega)⟩, fun hh => decide_eq_true (by have h_ := hh.2; omega)⟩, H4⟩⟩
      | exact ⟨_, (sc rfl (sc rfl (sn _))), ⟨(dec_f fun hh => g17p (by rw [dec_t hh.1]; rfl)).symm, H4⟩⟩
   have g17p := oT g17
   refine wV (v_fb (o2 := 1) fa44_1 rfl rfl) ?_
   refine wO g17 ?_
   refine wV (v_load one41 rfl (H4.at (by repeat constructor) rfl)) ?_
   refine wO g17 ?_
   refine wV (v_len Try.underlying41 rfl) ?_
   refine wO g17 ?_
   refine wV (v_fb (o2 := 0) fa44_0 rfl rfl) ?_
   refine wO g17 ?_
   refine wV (v_load one40 rfl (H4.at (by repeat constructor) rfl)) ?_
   refine wO g17 ?_
   refine wV (v_len Try.underlying40 rfl) ?_
   refine wO g17 ?_
   refine wV (v_eql rfl rfl) ?_
   refine wV (v_pick_t rfl g17 rfl) ?_
   refine wA ?_
   refine wl_nil ?_
   first
     | exact ⟨_, (sc rfl (sc rfl (sn _))), ⟨dec_eq ⟨fun hd => ⟨kE0 g17p, by (have h_ := oT hd; omega)⟩, fun hh => decide_eq_true (by have h_ := hh.2; omega)⟩, H4⟩⟩
     | exact ⟨_, (sc rfl (sc rfl (sn _))), ⟨(dec_f fun hh => g17p (by rw [dec_t hh.1]; rfl)).symm, H4⟩⟩
  rintro ok Wm ⟨hok, H⟩
  refine wc_seq ?_
  refine wcR ?_
  refine wV (v_fb (o2 := 1) fa44_1 rfl rfl) ?_
  refine wV (v_load one41 rfl (H.at (by repeat constructor) rfl)) ?_
  refine wV (v_len Try.underlying41 rfl) ?_
  refine wM ?_
  refine wl_nil ?_
  refine wc_block ?_
  refine wc_loop (σ := Nat × Bool) (fun s => [(1, .pointer (some ⟨b1, 0, none⟩)), (3, .bool s.2), (27, .slice a.p g.precs.length a.cp), (28, .int .i64 g.precs.length), (29, .int .i64 s.1)]) (fun s W => s.1 ≤ g.precs.length ∧ s.2 = dec (E0 g ∧ ∀ j, j < s.1 → precOk j (g.precs.getD j mv0)) ∧ Holds w [Blk b1 44 [.slice a.k g.kinds.length a.ck, .slice a.p g.precs.length a.cp, .slice a.r g.rules.length a.cr, .slice a.q g.prods.length a.cq, .int .i64 g.start]] W) (fun s => g.precs.length - s.1) (0, ok) (sc rfl (sc rfl (sc rfl (sc rfl (sc rfl (sn _)))))) ⟨Nat.zero_le _, okStart hok, H⟩ ?_
  rintro ⟨i, ok⟩ W0 ⟨hi, hok, H⟩
  dsimp only at hi hok H ⊢
  refine wcR ?_
  refine wV (v_lss rfl rfl) ?_
  refine wl_nil ?_
  refine wc_seq ?_
  refine wc_cond rfl (fun c0 => ?_) (fun c0 => ?_)
  ·have c0p := oT c0
   refine wc_skip ?_
   refine wc_seq ?_
   refine wc_block ?_
   refine wcR ?_
   refine wM ?_
   refine wV (v_idx Try.underlying41 sz145 hr.p.ad rfl rfl (by omega) (by omega)) ?_
   refine wV (v_loadN (cs := fMv.enc _) agg145 rfl rfl (fun k u hu => H.cell (hr.p.atN (i := i) (k := k) mv0 (by omega) hu))) ?_
   refine wl_alloc (cs := [.int .i64 0, .int .i64 0]) H rfl zv145 rfl ?_
   intro b5 w5 hb5 H6
   refine wA ?_
   refine wl_store (vs := [_, _]) H6 (by repeat constructor) sz145 rfl rfl rfl rfl rfl (by (repeat constructor)) ?_
   intro w7 H8 hw7
   refine wl_nil ?_
   refine wcR ?_
   refine wV (v_loadN agg145 rfl rfl (H8.ats (by repeat constructor))) ?_
   refine wV (v_bld ba145 rfl (by repeat constructor)) ?_
   refine wV (v_eqlm (a := (g.precs.getD i mv0)) (b := ⟨0, 0⟩) eqm145 rfl rfl) ?_
   rw [mvz]
   refine wA ?_
   refine wl_nil ?_
   refine wcR ?_
   refine wV (v_fb (o2 := 0) fa145_0 rfl rfl) ?_
   refine wV (v_load one3 rfl (H8.at (by repeat constructor) rfl)) ?_
   refine wV (v_geq rfl rfl) ?_
   refine wM ?_
   refine wl_guard rfl rfl rfl (fun g40 => ?_) (fun g40 => ?_)
   rotate_left
   ·have g40p := oF g40
    refine wF g40 ?_
    refine wF g40 ?_
    refine wV (v_pick_f rfl g40 rfl) ?_
    refine wM ?_
    refine wF rfl ?_
    refine wF rfl ?_
    refine wF rfl ?_
    refine wV (v_pick_f rfl rfl rfl) ?_
    refine wM ?_
    refine wF rfl ?_
    refine wF rfl ?_
    refine wV (v_pick_f rfl rfl rfl) ?_
    refine wA ?_
    refine wl_nil ?_
    refine wc_region ?_
    refine wM ?_
    refine wM ?_
    refine wl_guard rfl rfl rfl (fun g55 => ?_) (fun g55 => ?_)
    rotate_left
    ·refine wF g55 ?_
     refine wl_offu rfl rfl rfl ?_
     refine wF g55 ?_
     refine wV (v_pick_f rfl g55 rfl) ?_
     refine wA ?_
     refine wl_nil ?_
     refine wc_region ?_
     refine wV (v_addi rfl rfl (by omega)) ?_
     refine wM ?_
     refine wl_nil ?_
     first
       | exact ⟨(i + 1, _), (sc rfl (sc rfl (sc rfl (sc rfl (sc rfl (sn _)))))), ⟨by dsimp only; omega, okStep hok ⟨fun _ => ⟨g55, .inl g57p⟩, fun _ => rfl⟩, H8.pm (by repeat constructor)⟩, by dsimp only; omega⟩
       | exact ⟨(i + 1, _), (sc rfl (sc rfl (sc rfl (sc rfl (sc rfl (sn _)))))), ⟨by dsimp only; omega, okStep hok ⟨fun hd => absurd hd Bool.noConfusion, fun hh => absurd (hh.1.symm.trans g55) Bool.noConfusion⟩, H8.pm (by repeat constructor)⟩, by dsimp only; omega⟩
       | exact ⟨(i + 1, _), (sc rfl (sc rfl (sc rfl (sc rfl (sc rfl (sn _)))))), ⟨by dsimp only; omega, okStep hok ⟨fun hd => ⟨g55, by (have h_ := oT hd; unfold precOk; omega)⟩, fun hh => decide_eq_true (by have h_ := hh.2; unfold precOk at h_; omega)⟩, H8.pm (by repeat constructor)⟩, by dsimp only; omega⟩
       | exact ⟨(i + 1, _), (sc rfl (sc rfl (sc rfl (sc rfl (sc rfl (sn _)))))), ⟨by dsimp only; omega, okStep hok ⟨fun hd => absurd hd Bool.noConfusion, fun hh => absurd hh.2 (by unfold precOk; omega)⟩, H8.pm (by repeat constructor)⟩, by dsimp only; omega⟩
    refine wM ?_
    refine wO g55 ?_
    refine wM ?_
    refine wl_guard rfl rfl rfl (fun g57 => ?_) (fun g57 => ?_)
    rotate_left
    ·have g57p := oT g57
     refine wO g55 ?_
     refine wV (v_pick_t rfl g57 rfl) ?_
     refine wV (v_pick_t rfl g55 rfl) ?_
     refine wA ?_
     refine wl_nil ?_
     refine wc_region ?_
     refine wV (v_addi rfl rfl (by omega)) ?_
     refine wM ?_
     refine wl_nil ?_
     first
       | exact ⟨(i + 1, _), (sc rfl (sc rfl (sc rfl (sc rfl (sc rfl (sn _)))))), ⟨by dsimp only; omega, okStep hok ⟨fun _ => ⟨g55, .inl g57p⟩, fun _ => rfl⟩, H8.pm (by repeat constructor)⟩, by dsimp only; omega⟩
       | exact ⟨(i + 1, _), (sc rfl (sc rfl (sc rfl (sc rfl (sc rfl (sn _)))))), ⟨by dsimp only; omega, okStep hok ⟨fun hd => absurd hd Bool.noConfusion, fun hh => absurd (hh.1.symm.trans g55) Bool.noConfusion⟩, H8.pm (by repeat constructor)⟩, by dsimp only; omega⟩
       | exact ⟨(i + 1, _), (sc rfl (sc rfl (sc rfl (sc rfl (sc rfl (sn _)))))), ⟨by dsimp only; omega, okStep hok ⟨fun hd => ⟨g55, by (have h_ := oT hd; unfold precOk; omega)⟩, fun hh => decide_eq_true (by have h_ := hh.2; unfold precOk at h_; omega)⟩, H8.pm (by repeat constructor)⟩, by dsimp only; omega⟩
       | exact ⟨(i + 1, _), (sc rfl (sc rfl (sc rfl (sc rfl (sc rfl (sn _)))))), ⟨by dsimp only; omega, okStep hok ⟨fun hd => absurd hd Bool.noConfusion, fun hh => absurd hh.2 (by unfold precOk; omega)⟩, H8.pm (by repeat constructor)⟩, by dsimp only; omega⟩
    have g57p := oF g57
    refine wM ?_
    refine wO g55 ?_
    refine wV (v_pick_f rfl g57 rfl) ?_
    refine wV (v_pick_t rfl g55 rfl) ?_
    refine wA ?_
    refine wl_nil ?_
    refine wc_region ?_
    refine wV (v_addi rfl rfl (by omega)) ?_
    refine wM ?_
    refine wl_nil ?_
    first
      | exact ⟨(i + 1, _), (sc rfl (sc rfl (sc rfl (sc rfl (sc rfl (sn _)))))), ⟨by dsimp only; omega, okStep hok ⟨fun _ => ⟨g55, .inl g57p⟩, fun _ => rfl⟩, H8.pm (by repeat constructor)⟩, by dsimp only; omega⟩
      | exact ⟨(i + 1, _), (sc rfl (sc rfl (sc rfl (sc rfl (sc rfl (sn _)))))), ⟨by dsimp only; omega, okStep hok ⟨fun hd => absurd hd Bool.noConfusion, fun hh => absurd (hh.1.symm.trans g55) Bool.noConfusion⟩, H8.pm (by repeat constructor)⟩, by dsimp only; omega⟩
      | exact ⟨(i + 1, _), (sc rfl (sc rfl (sc rfl (sc rfl (sc rfl (sn _)))))), ⟨by dsimp only; omega, okStep hok ⟨fun hd => ⟨g55, by (have h_ := oT hd; unfold precOk; omega)⟩, fun hh => decide_eq_true (by have h_ := hh.2; unfold precOk at h_; omega)⟩, H8.pm (by repeat constructor)⟩, by dsimp only; omega⟩
      | exact ⟨(i + 1, _), (sc rfl (sc rfl (sc rfl (sc rfl (sc rfl (sn _)))))), ⟨by dsimp only; omega, okStep hok ⟨fun hd => absurd hd Bool.noConfusion, fun hh => absurd hh.2 (by unfold precOk; omega)⟩, H8.pm (by repeat constructor)⟩, by dsimp only; omega⟩
   have g40p := oT g40
   refine wV (v_fb (o2 := 1) fa145_1 rfl rfl) ?_
   refine wO g40 ?_
   refine wV (v_load one3 rfl (H8.at (by repeat constructor) rfl)) ?_
   refine wO g40 ?_
   refine wV (v_geq rfl rfl) ?_
   refine wV (v_pick_t rfl g40 rfl) ?_
   refine wM ?_
   refine wl_guard rfl rfl rfl (fun g45 => ?_) (fun g45 => ?_)
   rotate_left
   ·have g45p := oF g45
    refine wF g45 ?_
    refine wF g45 ?_
    refine wV (v_pick_f rfl g45 rfl) ?_
    refine wM ?_
    refine wF rfl ?_
    refine wF rfl ?_
    refine wV (v_pick_f rfl rfl rfl) ?_
    refine wA ?_
    refine wl_nil ?_
    refine wc_region ?_
    refine wM ?_
    refine wM ?_
    refine wl_guard rfl rfl rfl (fun g55 => ?_) (fun g55 => ?_)
    rotate_left
    ·refine wF g55 ?_
     refine wl_offu rfl rfl rfl ?_
     refine wF g55 ?_
     refine wV (v_pick_f rfl g55 rfl) ?_
     refine wA ?_
     refine wl_nil ?_
     refine wc_region ?_
     refine wV (v_addi rfl rfl (by omega)) ?_
     refine wM ?_
     refine wl_nil ?_
     first
       | exact ⟨(i + 1, _), (sc rfl (sc rfl (sc rfl (sc rfl (sc rfl (sn _)))))), ⟨by dsimp only; omega, okStep hok ⟨fun _ => ⟨g55, .inl g57p⟩, fun _ => rfl⟩, H8.pm (by repeat constructor)⟩, by dsimp only; omega⟩
       | exact ⟨(i + 1, _), (sc rfl (sc rfl (sc rfl (sc rfl (sc rfl (sn _)))))), ⟨by dsimp only; omega, okStep hok ⟨fun hd => absurd hd Bool.noConfusion, fun hh => absurd (hh.1.symm.trans g55) Bool.noConfusion⟩, H8.pm (by repeat constructor)⟩, by dsimp only; omega⟩
       | exact ⟨(i + 1, _), (sc rfl (sc rfl (sc rfl (sc rfl (sc rfl (sn _)))))), ⟨by dsimp only; omega, okStep hok ⟨fun hd => ⟨g55, by (have h_ := oT hd; unfold precOk; omega)⟩, fun hh => decide_eq_true (by have h_ := hh.2; unfold precOk at h_; omega)⟩, H8.pm (by repeat constructor)⟩, by dsimp only; omega⟩
       | exact ⟨(i + 1, _), (sc rfl (sc rfl (sc rfl (sc rfl (sc rfl (sn _)))))), ⟨by dsimp only; omega, okStep hok ⟨fun hd => absurd hd Bool.noConfusion, fun hh => absurd hh.2 (by unfold precOk; omega)⟩, H8.pm (by repeat constructor)⟩, by dsimp only; omega⟩
    refine wM ?_
    refine wO g55 ?_
    refine wM ?_
    refine wl_guard rfl rfl rfl (fun g57 => ?_) (fun g57 => ?_)
    rotate_left
    ·have g57p := oT g57
     refine wO g55 ?_
     refine wV (v_pick_t rfl g57 rfl) ?_
     refine wV (v_pick_t rfl g55 rfl) ?_
     refine wA ?_
     refine wl_nil ?_
     refine wc_region ?_
     refine wV (v_addi rfl rfl (by omega)) ?_
     refine wM ?_
     refine wl_nil ?_
     first
       | exact ⟨(i + 1, _), (sc rfl (sc rfl (sc rfl (sc rfl (sc rfl (sn _)))))), ⟨by dsimp only; omega, okStep hok ⟨fun _ => ⟨g55, .inl g57p⟩, fun _ => rfl⟩, H8.pm (by repeat constructor)⟩, by dsimp only; omega⟩
       | exact ⟨(i + 1, _), (sc rfl (sc rfl (sc rfl (sc rfl (sc rfl (sn _)))))), ⟨by dsimp only; omega, okStep hok ⟨fun hd => absurd hd Bool.noConfusion, fun hh => absurd (hh.1.symm.trans g55) Bool.noConfusion⟩, H8.pm (by repeat constructor)⟩, by dsimp only; omega⟩
       | exact ⟨(i + 1, _), (sc rfl (sc rfl (sc rfl (sc rfl (sc rfl (sn _)))))), ⟨by dsimp only; omega, okStep hok ⟨fun hd => ⟨g55, by (have h_ := oT hd; unfold precOk; omega)⟩, fun hh => decide_eq_true (by have h_ := hh.2; unfold precOk at h_; omega)⟩, H8.pm (by repeat constructor)⟩, by dsimp only; omega⟩
       | exact ⟨(i + 1, _), (sc rfl (sc rfl (sc rfl (sc rfl (sc rfl (sn _)))))), ⟨by dsimp only; omega, okStep hok ⟨fun hd => absurd hd Bool.noConfusion, fun hh => absurd hh.2 (by unfold precOk; omega)⟩, H8.pm (by repeat constructor)⟩, by dsimp only; omega⟩
    have g57p := oF g57
    refine wM ?_
    refine wO g55 ?_
    refine wV (v_pick_f rfl g57 rfl) ?_
    refine wV (v_pick_t rfl g55 rfl) ?_
    refine wA ?_
    refine wl_nil ?_
    refine wc_region ?_
    refine wV (v_addi rfl rfl (by omega)) ?_
    refine wM ?_
    refine wl_nil ?_
    first
      | exact ⟨(i + 1, _), (sc rfl (sc rfl (sc rfl (sc rfl (sc rfl (sn _)))))), ⟨by dsimp only; omega, okStep hok ⟨fun _ => ⟨g55, .inl g57p⟩, fun _ => rfl⟩, H8.pm (by repeat constructor)⟩, by dsimp only; omega⟩
      | exact ⟨(i + 1, _), (sc rfl (sc rfl (sc rfl (sc rfl (sc rfl (sn _)))))), ⟨by dsimp only; omega, okStep hok ⟨fun hd => absurd hd Bool.noConfusion, fun hh => absurd (hh.1.symm.trans g55) Bool.noConfusion⟩, H8.pm (by repeat constructor)⟩, by dsimp only; omega⟩
      | exact ⟨(i + 1, _), (sc rfl (sc rfl (sc rfl (sc rfl (sc rfl (sn _)))))), ⟨by dsimp only; omega, okStep hok ⟨fun hd => ⟨g55, by (have h_ := oT hd; unfold precOk; omega)⟩, fun hh => decide_eq_true (by have h_ := hh.2; unfold precOk at h_; omega)⟩, H8.pm (by repeat constructor)⟩, by dsimp only; omega⟩
      | exact ⟨(i + 1, _), (sc rfl (sc rfl (sc rfl (sc rfl (sc rfl (sn _)))))), ⟨by dsimp only; omega, okStep hok ⟨fun hd => absurd hd Bool.noConfusion, fun hh => absurd hh.2 (by unfold precOk; omega)⟩, H8.pm (by repeat constructor)⟩, by dsimp only; omega⟩
   have g45p := oT g45
   refine wV (v_fb (o2 := 1) fa145_1 rfl rfl) ?_
   refine wO g45 ?_
   refine wV (v_load one3 rfl (H8.at (by repeat constructor) rfl)) ?_
   refine wO g45 ?_
   refine wV (v_leq rfl rfl) ?_
   refine wV (v_pick_t rfl g45 rfl) ?_
   refine wM ?_
   refine wl_guard rfl rfl rfl (fun g50 => ?_) (fun g50 => ?_)
   rotate_left
   ·have g50p := oF g50
    refine wF g50 ?_
    refine wV (v_pick_f rfl g50 rfl) ?_
    refine wA ?_
    refine wl_nil ?_
    refine wc_region ?_
    refine wM ?_
    refine wM ?_
    refine wl_guard rfl rfl rfl (fun g55 => ?_) (fun g55 => ?_)
    rotate_left
    ·refine wF g55 ?_
     refine wl_offu rfl rfl rfl ?_
     refine wF g55 ?_
     refine wV (v_pick_f rfl g55 rfl) ?_
     refine wA ?_
     refine wl_nil ?_
     refine wc_region ?_
     refine wV (v_addi rfl rfl (by omega)) ?_
     refine wM ?_
     refine wl_nil ?_
     first
       | exact ⟨(i + 1, _), (sc rfl (sc rfl (sc rfl (sc rfl (sc rfl (sn _)))))), ⟨by dsimp only; omega, okStep hok ⟨fun _ => ⟨g55, .inl g57p⟩, fun _ => rfl⟩, H8.pm (by repeat constructor)⟩, by dsimp only; omega⟩
       | exact ⟨(i + 1, _), (sc rfl (sc rfl (sc rfl (sc rfl (sc rfl (sn _)))))), ⟨by dsimp only; omega, okStep hok ⟨fun hd => absurd hd Bool.noConfusion, fun hh => absurd (hh.1.symm.trans g55) Bool.noConfusion⟩, H8.pm (by repeat constructor)⟩, by dsimp only; omega⟩
       | exact ⟨(i + 1, _), (sc rfl (sc rfl (sc rfl (sc rfl (sc rfl (sn _)))))), ⟨by dsimp only; omega, okStep hok ⟨fun hd => ⟨g55, by (have h_ := oT hd; unfold precOk; omega)⟩, fun hh => decide_eq_true (by have h_ := hh.2; unfold precOk at h_; omega)⟩, H8.pm (by repeat constructor)⟩, by dsimp only; omega⟩
       | exact ⟨(i + 1, _), (sc rfl (sc rfl (sc rfl (sc rfl (sc rfl (sn _)))))), ⟨by dsimp only; omega, okStep hok ⟨fun hd => absurd hd Bool.noConfusion, fun hh => absurd hh.2 (by unfold precOk; omega)⟩, H8.pm (by repeat constructor)⟩, by dsimp only; omega⟩
    refine wM ?_
    refine wO g55 ?_
    refine wM ?_
    refine wl_guard rfl rfl rfl (fun g57 => ?_) (fun g57 => ?_)
    rotate_left
    ·have g57p := oT g57
     refine wO g55 ?_
     refine wV (v_pick_t rfl g57 rfl) ?_
     refine wV (v_pick_t rfl g55 rfl) ?_
     refine wA ?_
     refine wl_nil ?_
     refine wc_region ?_
     refine wV (v_addi rfl rfl (by omega)) ?_
     refine wM ?_
     refine wl_nil ?_
     first
       | exact ⟨(i + 1, _), (sc rfl (sc rfl (sc rfl (sc rfl (sc rfl (sn _)))))), ⟨by dsimp only; omega, okStep hok ⟨fun _ => ⟨g55, .inl g57p⟩, fun _ => rfl⟩, H8.pm (by repeat constructor)⟩, by dsimp only; omega⟩
       | exact ⟨(i + 1, _), (sc rfl (sc rfl (sc rfl (sc rfl (sc rfl (sn _)))))), ⟨by dsimp only; omega, okStep hok ⟨fun hd => absurd hd Bool.noConfusion, fun hh => absurd (hh.1.symm.trans g55) Bool.noConfusion⟩, H8.pm (by repeat constructor)⟩, by dsimp only; omega⟩
       | exact ⟨(i + 1, _), (sc rfl (sc rfl (sc rfl (sc rfl (sc rfl (sn _)))))), ⟨by dsimp only; omega, okStep hok ⟨fun hd => ⟨g55, by (have h_ := oT hd; unfold precOk; omega)⟩, fun hh => decide_eq_true (by have h_ := hh.2; unfold precOk at h_; omega)⟩, H8.pm (by repeat constructor)⟩, by dsimp only; omega⟩
       | exact ⟨(i + 1, _), (sc rfl (sc rfl (sc rfl (sc rfl (sc rfl (sn _)))))), ⟨by dsimp only; omega, okStep hok ⟨fun hd => absurd hd Bool.noConfusion, fun hh => absurd hh.2 (by unfold precOk; omega)⟩, H8.pm (by repeat constructor)⟩, by dsimp only; omega⟩
    have g57p := oF g57
    refine wM ?_
    refine wO g55 ?_
    refine wV (v_pick_f rfl g57 rfl) ?_
    refine wV (v_pick_t rfl g55 rfl) ?_
    refine wA ?_
    refine wl_nil ?_
    refine wc_region ?_
    refine wV (v_addi rfl rfl (by omega)) ?_
    refine wM ?_
    refine wl_nil ?_
    first
      | exact ⟨(i + 1, _), (sc rfl (sc rfl (sc rfl (sc rfl (sc rfl (sn _)))))), ⟨by dsimp only; omega, okStep hok ⟨fun _ => ⟨g55, .inl g57p⟩, fun _ => rfl⟩, H8.pm (by repeat constructor)⟩, by dsimp only; omega⟩
      | exact ⟨(i + 1, _), (sc rfl (sc rfl (sc rfl (sc rfl (sc rfl (sn _)))))), ⟨by dsimp only; omega, okStep hok ⟨fun hd => absurd hd Bool.noConfusion, fun hh => absurd (hh.1.symm.trans g55) Bool.noConfusion⟩, H8.pm (by repeat constructor)⟩, by dsimp only; omega⟩
      | exact ⟨(i + 1, _), (sc rfl (sc rfl (sc rfl (sc rfl (sc rfl (sn _)))))), ⟨by dsimp only; omega, okStep hok ⟨fun hd => ⟨g55, by (have h_ := oT hd; unfold precOk; omega)⟩, fun hh => decide_eq_true (by have h_ := hh.2; unfold precOk at h_; omega)⟩, H8.pm (by repeat constructor)⟩, by dsimp only; omega⟩
      | exact ⟨(i + 1, _), (sc rfl (sc rfl (sc rfl (sc rfl (sc rfl (sn _)))))), ⟨by dsimp only; omega, okStep hok ⟨fun hd => absurd hd Bool.noConfusion, fun hh => absurd hh.2 (by unfold precOk; omega)⟩, H8.pm (by repeat constructor)⟩, by dsimp only; omega⟩
   have g50p := oT g50
   refine wM ?_
   refine wO g50 ?_
   refine wV (v_geq rfl rfl) ?_
   refine wV (v_pick_t rfl g50 rfl) ?_
   refine wA ?_
   refine wl_nil ?_
   refine wc_region ?_
   refine wM ?_
   refine wM ?_
   refine wl_guard rfl rfl rfl (fun g55 => ?_) (fun g55 => ?_)
   rotate_left
   ·refine wF g55 ?_
    refine wl_offu rfl rfl rfl ?_
    refine wF g55 ?_
    refine wV (v_pick_f rfl g55 rfl) ?_
    refine wA ?_
    refine wl_nil ?_
    refine wc_region ?_
    refine wV (v_addi rfl rfl (by omega)) ?_
    refine wM ?_
    refine wl_nil ?_
    first
      | exact ⟨(i + 1, _), (sc rfl (sc rfl (sc rfl (sc rfl (sc rfl (sn _)))))), ⟨by dsimp only; omega, okStep hok ⟨fun _ => ⟨g55, .inl g57p⟩, fun _ => rfl⟩, H8.pm (by repeat constructor)⟩, by dsimp only; omega⟩
      | exact ⟨(i + 1, _), (sc rfl (sc rfl (sc rfl (sc rfl (sc rfl (sn _)))))), ⟨by dsimp only; omega, okStep hok ⟨fun hd => absurd hd Bool.noConfusion, fun hh => absurd (hh.1.symm.trans g55) Bool.noConfusion⟩, H8.pm (by repeat constructor)⟩, by dsimp only; omega⟩
      | exact ⟨(i + 1, _), (sc rfl (sc rfl (sc rfl (sc rfl (sc rfl (sn _)))))), ⟨by dsimp only; omega, okStep hok ⟨fun hd => ⟨g55, by (have h_ := oT hd; unfold precOk; omega)⟩, fun hh => decide_eq_true (by have h_ := hh.2; unfold precOk at h_; omega)⟩, H8.pm (by repeat constructor)⟩, by dsimp only; omega⟩
      | exact ⟨(i + 1, _), (sc rfl (sc rfl (sc rfl (sc rfl (sc rfl (sn _)))))), ⟨by dsimp only; omega, okStep hok ⟨fun hd => absurd hd Bool.noConfusion, fun hh => absurd hh.2 (by unfold precOk; omega)⟩, H8.pm (by repeat constructor)⟩, by dsimp only; omega⟩
   refine wM ?_
   refine wO g55 ?_
   refine wM ?_
   refine wl_guard rfl rfl rfl (fun g57 => ?_) (fun g57 => ?_)
   rotate_left
   ·have g57p := oT g57
    refine wO g55 ?_
    refine wV (v_pick_t rfl g57 rfl) ?_
    refine wV (v_pick_t rfl g55 rfl) ?_
    refine wA ?_
    refine wl_nil ?_
    refine wc_region ?_
    refine wV (v_addi rfl rfl (by omega)) ?_
    refine wM ?_
    refine wl_nil ?_
    first
      | exact ⟨(i + 1, _), (sc rfl (sc rfl (sc rfl (sc rfl (sc rfl (sn _)))))), ⟨by dsimp only; omega, okStep hok ⟨fun _ => ⟨g55, .inl g57p⟩, fun _ => rfl⟩, H8.pm (by repeat constructor)⟩, by dsimp only; omega⟩
      | exact ⟨(i + 1, _), (sc rfl (sc rfl (sc rfl (sc rfl (sc rfl (sn _)))))), ⟨by dsimp only; omega, okStep hok ⟨fun hd => absurd hd Bool.noConfusion, fun hh => absurd (hh.1.symm.trans g55) Bool.noConfusion⟩, H8.pm (by repeat constructor)⟩, by dsimp only; omega⟩
      | exact ⟨(i + 1, _), (sc rfl (sc rfl (sc rfl (sc rfl (sc rfl (sn _)))))), ⟨by dsimp only; omega, okStep hok ⟨fun hd => ⟨g55, by (have h_ := oT hd; unfold precOk; omega)⟩, fun hh => decide_eq_true (by have h_ := hh.2; unfold precOk at h_; omega)⟩, H8.pm (by repeat constructor)⟩, by dsimp only; omega⟩
      | exact ⟨(i + 1, _), (sc rfl (sc rfl (sc rfl (sc rfl (sc rfl (sn _)))))), ⟨by dsimp only; omega, okStep hok ⟨fun hd => absurd hd Bool.noConfusion, fun hh => absurd hh.2 (by unfold precOk; omega)⟩, H8.pm (by repeat constructor)⟩, by dsimp only; omega⟩
   have g57p := oF g57
   refine wM ?_
   refine wO g55 ?_
   refine wV (v_pick_f rfl g57 rfl) ?_
   refine wV (v_pick_t rfl g55 rfl) ?_
   refine wA ?_
   refine wl_nil ?_
   refine wc_region ?_
   refine wV (v_addi rfl rfl (by omega)) ?_
   refine wM ?_
   refine wl_nil ?_
   first
     | exact ⟨(i + 1, _), (sc rfl (sc rfl (sc rfl (sc rfl (sc rfl (sn _)))))), ⟨by dsimp only; omega, okStep hok ⟨fun _ => ⟨g55, .inl g57p⟩, fun _ => rfl⟩, H8.pm (by repeat constructor)⟩, by dsimp only; omega⟩
     | exact ⟨(i + 1, _), (sc rfl (sc rfl (sc rfl (sc rfl (sc rfl (sn _)))))), ⟨by dsimp only; omega, okStep hok ⟨fun hd => absurd hd Bool.noConfusion, fun hh => absurd (hh.1.symm.trans g55) Bool.noConfusion⟩, H8.pm (by repeat constructor)⟩, by dsimp only; omega⟩
     | exact ⟨(i + 1, _), (sc rfl (sc rfl (sc rfl (sc rfl (sc rfl (sn _)))))), ⟨by dsimp only; omega, okStep hok ⟨fun hd => ⟨g55, by (have h_ := oT hd; unfold precOk; omega)⟩, fun hh => decide_eq_true (by have h_ := hh.2; unfold precOk at h_; omega)⟩, H8.pm (by repeat constructor)⟩, by dsimp only; omega⟩
     | exact ⟨(i + 1, _), (sc rfl (sc rfl (sc rfl (sc rfl (sc rfl (sn _)))))), ⟨by dsimp only; omega, okStep hok ⟨fun hd => absurd hd Bool.noConfusion, fun hh => absurd hh.2 (by unfold precOk; omega)⟩, H8.pm (by repeat constructor)⟩, by dsimp only; omega⟩
  have c0p := oF c0
  have hE := okFin (F := PrecsOk g.precs) hok c0p hi Iff.rfl
  refine wc_exit ?_
  refine wc_cut (σ := Bool) (fun q => [(1, .pointer (some ⟨b1, 0, none⟩)), (3, .bool q)]) (fun q W => q = dec (E1 g) ∧ Holds w [Blk b1 44 [.slice a.k g.kinds.length a.ck, .slice a.p g.precs.length a.cp, .slice a.r g.rules.length a.cr, .slice a.q g.prods.length a.cq, .int .i64 g.start]] W) ?_ ?_
  ·refine wc_region ?_
   refine wM ?_
   refine wM ?_
   refine wl_guard rfl rfl rfl (fun g63 => ?_) (fun g63 => ?_)
   rotate_left
   ·refine wF g63 ?_
    refine wF g63 ?_
    refine wF g63 ?_
    refine wV (v_pick_f rfl g63 rfl) ?_
    refine wM ?_
    refine wF rfl ?_
    refine wF rfl ?_
    refine wF rfl ?_
    refine wF rfl ?_
    refine wV (v_pick_f rfl rfl rfl) ?_
    refine wM ?_
    refine wF rfl ?_
    refine wF rfl ?_
    refine wF rfl ?_
    refine wV (v_pick_f rfl rfl rfl) ?_
    refine wM ?_
    refine wF rfl ?_
    refine wF rfl ?_
    refine wF rfl ?_
    refine wF rfl ?_
    refine wF rfl ?_
    refine wF rfl ?_
    refine wV (v_pick_f rfl rfl rfl) ?_
    refine wM ?_
    refine wF rfl ?_
    refine wF rfl ?_
    refine wF rfl ?_
    refine wF rfl ?_
    refine wV (v_pick_f rfl rfl rfl) ?_
    refine wA ?_
    refine wl_nil ?_
    first
      | exact ⟨_, (sc rfl (sc rfl (sn _))), ⟨dec_eq ⟨fun hd => ⟨of_dec (hE.symm.trans g63), by (have h_ := oT hd; omega)⟩, fun hh => decide_eq_true (by have h_ := hh.2; omega)⟩, H⟩⟩
      | exact ⟨_, (sc rfl (sc rfl (sn _))), ⟨(dec_f fun hh => of_ndec (hE.symm.trans g63) hh.1).symm, H⟩⟩
      | exact ⟨_, (sc rfl (sc rfl (sn _))), ⟨(dec_f fun hh => by have h_ := hh.2; omega).symm, H⟩⟩
   refine wV (v_fb (o2 := 2) fa44_2 rfl rfl) ?_
   refine wO g63 ?_
   refine wV (v_load one40 rfl (H.at (by repeat constructor) rfl)) ?_
   refine wO g63 ?_
   refine wV (v_len Try.underlying40 rfl) ?_
   refine wO g63 ?_
   refine wV (v_geq rfl rfl) ?_
   refine wV (v_pick_t rfl g63 rfl) ?_
   refine wM ?_
   refine wl_guard rfl rfl rfl (fun g69 => ?_) (fun g69 => ?_)
   rotate_left
   ·have g69p := oF g69
    refine wF g69 ?_
    refine wF g69 ?_
    refine wF g69 ?_
    refine wV (v_pick_f rfl g69 rfl) ?_
    refine wM ?_
    refine wF rfl ?_
    refine wF rfl ?_
    refine wF rfl ?_
    refine wV (v_pick_f rfl rfl rfl) ?_
    refine wM ?_
    refine wF rfl ?_
    refine wF rfl ?_
    refine wF rfl ?_
    refine wF rfl ?_
    refine wF rfl ?_
    refine wF rfl ?_
    refine wV (v_pick_f rfl rfl rfl) ?_
    refine wM ?_
    refine wF rfl ?_
    refine wF rfl ?_
    refine wF rfl ?_
    refine wF rfl ?_
    refine wV (v_pick_f rfl rfl rfl) ?_
    refine wA ?_
    refine wl_nil ?_
    first
      | exact ⟨_, (sc rfl (sc rfl (sn _))), ⟨dec_eq ⟨fun hd => ⟨of_dec (hE.symm.trans g63), by (have h_ := oT hd; omega)⟩, fun hh => decide_eq_true (by have h_ := hh.2; omega)⟩, H⟩⟩
      | exact ⟨_, (sc rfl (sc rfl (sn _))), ⟨(dec_f fun hh => of_ndec (hE.symm.trans g63) hh.1).symm, H⟩⟩
      | exact ⟨_, (sc rfl (sc rfl (sn _))), ⟨(dec_f fun hh => by have h_ := hh.2; omega).symm, H⟩⟩
   have g69p := oT g69
   refine wV (v_fb (o2 := 2) fa44_2 rfl rfl) ?_
   refine wO g69 ?_
   refine wV (v_load one40 rfl (H.at (by repeat constructor) rfl)) ?_
   refine wO g69 ?_
   refine wV (v_len Try.underlying40 rfl) ?_
   refine wO g69 ?_
   refine wV (v_leq rfl rfl) ?_
   refine wV (v_pick_t rfl g69 rfl) ?_
   refine wM ?_
   refine wl_guard rfl rfl rfl (fun g75 => ?_) (fun g75 => ?_)
   rotate_left
   ·have g75p := oF g75
    refine wF g75 ?_
    refine wF g75 ?_
    refine wV (v_pick_f rfl g75 rfl) ?_
    refine wM ?_
    refine wF rfl ?_
    refine wF rfl ?_
    refine wF rfl ?_
    refine wF rfl ?_
    refine wF rfl ?_
    refine wF rfl ?_
    refine wV (v_pick_f rfl rfl rfl) ?_
    refine wM ?_
    refine wF rfl ?_
    refine wF rfl ?_
    refine wF rfl ?_
    refine wF rfl ?_
    refine wV (v_pick_f rfl rfl rfl) ?_
    refine wA ?_
    refine wl_nil ?_
    first
      | exact ⟨_, (sc rfl (sc rfl (sn _))), ⟨dec_eq ⟨fun hd => ⟨of_dec (hE.symm.trans g63), by (have h_ := oT hd; omega)⟩, fun hh => decide_eq_true (by have h_ := hh.2; omega)⟩, H⟩⟩
      | exact ⟨_, (sc rfl (sc rfl (sn _))), ⟨(dec_f fun hh => of_ndec (hE.symm.trans g63) hh.1).symm, H⟩⟩
      | exact ⟨_, (sc rfl (sc rfl (sn _))), ⟨(dec_f fun hh => by have h_ := hh.2; omega).symm, H⟩⟩
   have g75p := oT g75
   refine wV (v_fb (o2 := 4) fa44_4 rfl rfl) ?_
   refine wO g75 ?_
   refine wV (v_load one3 rfl (H.at (by repeat constructor) rfl)) ?_
   refine wO g75 ?_
   refine wV (v_geq rfl rfl) ?_
   refine wV (v_pick_t rfl g75 rfl) ?_
   refine wM ?_
   refine wl_guard rfl rfl rfl (fun g80 => ?_) (fun g80 => ?_)
   rotate_left
   ·have g80p := oF g80
    refine wF g80 ?_
    refine wF g80 ?_
    refine wF g80 ?_
    refine wF g80 ?_
    refine wF g80 ?_
    refine wV (v_pick_f rfl g80 rfl) ?_
    refine wM ?_
    refine wF rfl ?_
    refine wF rfl ?_
    refine wF rfl ?_
    refine wF rfl ?_
    refine wV (v_pick_f rfl rfl rfl) ?_
    refine wA ?_
    refine wl_nil ?_
    first
      | exact ⟨_, (sc rfl (sc rfl (sn _))), ⟨dec_eq ⟨fun hd => ⟨of_dec (hE.symm.trans g63), by (have h_ := oT hd; omega)⟩, fun hh => decide_eq_true (by have h_ := hh.2; omega)⟩, H⟩⟩
      | exact ⟨_, (sc rfl (sc rfl (sn _))), ⟨(dec_f fun hh => of_ndec (hE.symm.trans g63) hh.1).symm, H⟩⟩
      | exact ⟨_, (sc rfl (sc rfl (sn _))), ⟨(dec_f fun hh => by have h_ := hh.2; omega).symm, H⟩⟩
   have g80p := oT g80
   refine wV (v_fb (o2 := 4) fa44_4 rfl rfl) ?_
   refine wO g80 ?_
   refine wV (v_load one3 rfl (H.at (by repeat constructor) rfl)) ?_
   refine wO g80 ?_
   refine wV (v_fb (o2 := 2) fa44_2 rfl rfl) ?_
   refine wO g80 ?_
   refine wV (v_load one40 rfl (H.at (by repeat constructor) rfl)) ?_
   refine wO g80 ?_
   refine wV (v_len Try.underlying40 rfl) ?_
   refine wO g80 ?_
   refine wV (v_lss rfl rfl) ?_
   refine wV (v_pick_t rfl g80 rfl) ?_
   refine wM ?_
   refine wl_guard rfl rfl rfl (fun g88 => ?_) (fun g88 => ?_)
   rotate_left
   ·have g88p := oF g88
    refine wF g88 ?_
    refine wF g88 ?_
    refine wF g88 ?_
    refine wV (v_pick_f rfl g88 rfl) ?_
    refine wA ?_
    refine wl_nil ?_
    first
      | exact ⟨_, (sc rfl (sc rfl (sn _))), ⟨dec_eq ⟨fun hd => ⟨of_dec (hE.symm.trans g63), by (have h_ := oT hd; omega)⟩, fun hh => decide_eq_true (by have h_ := hh.2; omega)⟩, H⟩⟩
      | exact ⟨_, (sc rfl (sc rfl (sn _))), ⟨(dec_f fun hh => of_ndec (hE.symm.trans g63) hh.1).symm, H⟩⟩
      | exact ⟨_, (sc rfl (sc rfl (sn _))), ⟨(dec_f fun hh => by have h_ := hh.2; omega).symm, H⟩⟩
   have g88p := oT g88
   refine wV (v_fb (o2 := 3) fa44_3 rfl rfl) ?_
   refine wO g88 ?_
   refine wV (v_load one42 rfl (H.at (by repeat constructor) rfl)) ?_
   refine wO g88 ?_
   refine wV (v_len Try.underlying42 rfl) ?_
   refine wO g88 ?_
   refine wV (v_leq rfl rfl) ?_
   refine wV (v_pick_t rfl g88 rfl) ?_
   refine wA ?_
   refine wl_nil ?_
   first
     | exact ⟨_, (sc rfl (sc rfl (sn _))), ⟨dec_eq ⟨fun hd => ⟨of_dec (hE.symm.trans g63), by (have h_ := oT hd; omega)⟩, fun hh => decide_eq_true (by have h_ := hh.2; omega)⟩, H⟩⟩
     | exact ⟨_, (sc rfl (sc rfl (sn _))), ⟨(dec_f fun hh => of_ndec (hE.symm.trans g63) hh.1).symm, H⟩⟩
     | exact ⟨_, (sc rfl (sc rfl (sn _))), ⟨(dec_f fun hh => by have h_ := hh.2; omega).symm, H⟩⟩
  rintro ok Wm ⟨hok, H⟩
  refine wcR ?_
  refine wl_mkmap KS Value.bool H rfl ?_
  intro bm w10 hbm H10
  refine wA ?_
  refine wl_nil ?_
  refine wc_seq ?_
  refine wcR ?_
  refine wV (v_fb (o2 := 2) fa44_2 rfl rfl) ?_
  refine wV (v_load one40 rfl (H10.at (by repeat constructor) rfl)) ?_
  refine wV (v_len Try.underlying40 rfl) ?_
  refine wM ?_
  refine wl_nil ?_
  refine wc_block ?_
  refine wc_loop (σ := Nat × Bool) (fun s => [(1, .pointer (some ⟨b1, 0, none⟩)), (3, .bool s.2), (8, .map (some bm)), (96, .slice a.r g.rules.length a.cr), (97, .int .i64 g.rules.length), (98, .int .i64 s.1)]) (fun s W => s.1 ≤ g.rules.length ∧ s.2 = dec (E1 g ∧ ∀ j, j < s.1 → ruleOk g j) ∧ Holds w [Mp KS Value.bool bm s.1 (metF (g.rules.take s.1)), Blk b1 44 [.slice a.k g.kinds.length a.ck, .slice a.p g.precs.length a.cp, .slice a.r g.rules.length a.cr, .slice a.q g.prods.length a.cq, .int .i64 g.start]] W) (fun s => g.rules.length - s.1) (0, ok) (sc rfl (sc rfl (sc rfl (sc rfl (sc rfl (sc rfl (sn _))))))) ⟨Nat.zero_le _, okStart hok, by rw [metF_nil] at H10; exact H10⟩ ?_
  rintro ⟨i, ok⟩ W1 ⟨hi, hok, H⟩
  dsimp only at hi hok H ⊢
  refine wcR ?_
  refine wV (v_lss rfl rfl) ?_
  refine wl_nil ?_
  refine wc_seq ?_
  refine wc_cond rfl (fun c1 => ?_) (fun c1 => ?_)
  rotate_left
  ·have c1p := oF c1
   have hE := okFin (F := ∀ i, i < g.rules.length → ruleOk g i) hok c1p hi Iff.rfl
   refine wc_exit ?_
   refine wc_seq ?_
   refine wcR ?_
   refine wV (v_fb (o2 := 3) fa44_3 rfl rfl) ?_
   refine wV (v_load one42 rfl (H.at (by repeat constructor) rfl)) ?_
   refine wV (v_len Try.underlying42 rfl) ?_
   refine wM ?_
   refine wl_nil ?_
   refine wc_block ?_
   refine wc_loop (σ := Nat × Bool) (fun s => [(1, .pointer (some ⟨b1, 0, none⟩)), (3, .bool s.2), (123, .slice a.q g.prods.length a.cq), (124, .int .i64 g.prods.length), (125, .int .i64 s.1)]) (fun s W => s.1 ≤ g.prods.length ∧ s.2 = dec ((E1 g ∧ ∀ i, i < g.rules.length → ruleOk g i) ∧ ∀ j, j < s.1 → PrOk g (g.prods.getD j pr0)) ∧ Holds w [Blk b1 44 [.slice a.k g.kinds.length a.ck, .slice a.p g.precs.length a.cp, .slice a.r g.rules.length a.cr, .slice a.q g.prods.length a.cq, .int .i64 g.start]] W) (fun s => g.prods.length - s.1) (0, ok) (sc rfl (sc rfl (sc rfl (sc rfl (sc rfl (sn _)))))) ⟨Nat.zero_le _, okStart hE, H.pm (by repeat constructor)⟩ ?_
   rintro ⟨i, ok⟩ W2 ⟨hi, hok, H⟩
   dsimp only at hi hok H ⊢
   refine wcR ?_
   refine wV (v_lss rfl rfl) ?_
   refine wl_nil ?_
   refine wc_seq ?_
   refine wc_cond rfl (fun c2 => ?_) (fun c2 => ?_)
   rotate_left
   ·have c2p := oF c2
    have hE := (okFin (F := ∀ i, i < g.prods.length → PrOk g (g.prods.getD i pr0)) hok c2p hi Iff.rfl).trans (dec_iff (gok_iff g).symm)
    refine wc_exit ?_
    refine wc_seq ?_
    refine wcR ?_
    refine wM ?_
    refine wV (v_not rfl) ?_
    refine wl_nil ?_
    refine wc_cond rfl (fun c3 => ?_) (fun c3 => ?_)
    ·have c3p := of_n_t c3
     refine wcR ?_
     refine wA ?_
     refine wl_nil ?_
     refine wc_ret ?_
     first
       | exact ⟨_, res1 rfl rfl, congrArg (Value.int .i64) (checkG_f (of_ndec (hE.symm.trans (of_n_t c3)))).symm, H.pm (Pm.nil _)⟩
       | exact ⟨_, res1 rfl rfl, congrArg (Value.int .i64) (checkG_t (of_dec (hE.symm.trans (of_n_f c3)))).symm, H.pm (Pm.nil _)⟩
    have c3p := of_n_f c3
    refine wc_skip ?_
    refine wcR ?_
    refine wA ?_
    refine wl_nil ?_
    refine wc_ret ?_
    first
      | exact ⟨_, res1 rfl rfl, congrArg (Value.int .i64) (checkG_f (of_ndec (hE.symm.trans (of_n_t c3)))).symm, H.pm (Pm.nil _)⟩
      | exact ⟨_, res1 rfl rfl, congrArg (Value.int .i64) (checkG_t (of_dec (hE.symm.trans (of_n_f c3)))).symm, H.pm (Pm.nil _)⟩
   have c2p := oT c2
   refine wc_skip ?_
   refine wc_seq ?_
   refine wc_block ?_
   refine wcR ?_
   refine wV (v_idx Try.underlying42 sz73 hr.q.ad rfl rfl (by omega) (by omega)) ?_
   obtain ⟨R128_, c128_, B128_, k128_, hc128_, hl128_, hR128_, hB128_⟩ := hr.q.atPr (i := i) (by omega)
   refine wV (v_loadN (cs := [.int .i64 (g.prods.getD i pr0).left, .slice R128_ (g.prods.getD i pr0).right.length c128_, .int .i64 (g.prods.getD i pr0).level, .int .i64 (g.prods.getD i pr0).act.x.kind, .int .i64 (g.prods.getD i pr0).act.x.at_, .string (g.prods.getD i pr0).act.x.name, .slice B128_ (g.prods.getD i pr0).act.kids.length k128_]) agg73 rfl rfl (fun q_ u_ hu_ => H.cell (hc128_ q_ u_ hu_))) ?_
   refine wl_alloc (cs := [.int .i64 0, .slice none 0 0, .int .i64 0, .int .i64 0, .int .i64 0, .string ⟨#[]⟩, .slice none 0 0]) H rfl zv73 rfl ?_
   intro b12 w16 hb12 H17
   refine wl_store (vs := [_, _, _, _, _, _, _]) H17 (by repeat constructor) sz73 rfl rfl rfl rfl rfl (by (repeat constructor)) ?_
   intro w18 H19 hw18
   refine wl_nil ?_
   refine wc_region ?_
   refine wM ?_
   refine wM ?_
   refine wl_guard rfl rfl rfl (fun g130 => ?_) (fun g130 => ?_)
   rotate_left
   ·refine wF g130 ?_
    refine wF g130 ?_
    refine wV (v_pick_f rfl g130 rfl) ?_
    refine wA ?_
    refine wl_nil ?_
    refine wc_region ?_
    refine wV (v_addi rfl rfl (by omega)) ?_
    refine wM ?_
    refine wl_nil ?_
    first
      | exact ⟨(i + 1, _), (sc rfl (sc rfl (sc rfl (sc rfl (sc rfl (sn _)))))), ⟨by dsimp only; omega, okStep hok ⟨fun hd => ⟨g130, of_dec hd⟩, fun hh => dec_t hh.2⟩, H19.pm (by repeat constructor)⟩, by dsimp only; omega⟩
      | exact ⟨(i + 1, _), (sc rfl (sc rfl (sc rfl (sc rfl (sc rfl (sn _)))))), ⟨by dsimp only; omega, okStep hok ⟨fun hd => absurd hd Bool.noConfusion, fun hh => absurd (hh.1.symm.trans g130) Bool.noConfusion⟩, H19.pm (by repeat constructor)⟩, by dsimp only; omega⟩
   refine wV (v_loadN agg44 rfl rfl (H19.ats (by repeat constructor))) ?_
   refine wO g130 ?_
   refine wV (v_loadN agg73 rfl rfl (H19.ats (by repeat constructor))) ?_
   refine wO g130 ?_
   refine wl_call en61 rfl rfl (prod_calls hg hl128_ (hR128_.below H19.old) (hB128_.below H19.old) (hg.qr _ (getD_mem (z := pr0) (show i < g.prods.length by omega))) (hg.qa _ (getD_mem (z := pr0) (show i < g.prods.length by omega)))) ?_
   rintro _ w20 ⟨rfl, Hc⟩
   have H21 := H19.call0 Hc
   refine wV (v_pick_t rfl g130 rfl) ?_
   refine wA ?_
   refine wl_nil ?_
   refine wc_region ?_
   refine wV (v_addi rfl rfl (by omega)) ?_
   refine wM ?_
   refine wl_nil ?_
   first
     | exact ⟨(i + 1, _), (sc rfl (sc rfl (sc rfl (sc rfl (sc rfl (sn _)))))), ⟨by dsimp only; omega, okStep hok ⟨fun hd => ⟨g130, of_dec hd⟩, fun hh => dec_t hh.2⟩, H21.pm (by repeat constructor)⟩, by dsimp only; omega⟩
     | exact ⟨(i + 1, _), (sc rfl (sc rfl (sc rfl (sc rfl (sc rfl (sn _)))))), ⟨by dsimp only; omega, okStep hok ⟨fun hd => absurd hd Bool.noConfusion, fun hh => absurd (hh.1.symm.trans g130) Bool.noConfusion⟩, H21.pm (by repeat constructor)⟩, by dsimp only; omega⟩
  have c1p := oT c1
  refine wc_skip ?_
  refine wc_seq ?_
  refine wc_block ?_
  refine wcR ?_
  refine wV (v_idx Try.underlying40 sz9 hr.r.ad rfl rfl (by omega) (by omega)) ?_
  refine wV (v_load one9 rfl (H.cell (hr.r.at1sN (i := i) (by omega)))) ?_
  refine wA ?_
  refine wl_nil ?_
  refine wcR ?_
  refine wM ?_
  refine wM ?_
  refine wl_guard rfl rfl rfl (fun g103 => ?_) (fun g103 => ?_)
  rotate_left
  ·refine wF g103 ?_
   refine wF g103 ?_
   refine wV (v_pick_f rfl g103 rfl) ?_
   refine wM ?_
   refine wF rfl ?_
   refine wF rfl ?_
   refine wF rfl ?_
   refine wV (v_pick_f rfl rfl rfl) ?_
   refine wM ?_
   refine wF rfl ?_
   refine wF rfl ?_
   refine wF rfl ?_
   refine wF rfl ?_
   refine wV (v_pick_f rfl rfl rfl) ?_
   refine wA ?_
   refine wl_nil ?_
   refine wc_region ?_
   refine wM ?_
   refine wM ?_
   refine wl_mapset H (by repeat constructor) Try.underlying122 (show KS.ok (g.rules.getD i ByteArray.empty) from Nat.le_trans (hg.rs _ (getD_mem (z := ByteArray.empty) (show i < g.rules.length by omega))) (by decide)) (by unfold maxLen; omega) rfl rfl rfl ?_
   intro w15 H15
   refine wl_nil ?_
   refine wc_region ?_
   refine wV (v_addi rfl rfl (by omega)) ?_
   refine wM ?_
   refine wl_nil ?_
   rw [metF_succ (by omega)] at H15
   first
     | exact ⟨(i + 1, _), (sc rfl (sc rfl (sc rfl (sc rfl (sc rfl (sc rfl (sn _))))))), ⟨by dsimp only; omega, okStep hok ⟨fun hd => absurd hd Bool.noConfusion, fun hh => absurd (hh.1.symm.trans g103) Bool.noConfusion⟩, H15.pm (by repeat constructor)⟩, by dsimp only; omega⟩
     | exact ⟨(i + 1, _), (sc rfl (sc rfl (sc rfl (sc rfl (sc rfl (sc rfl (sn _))))))), ⟨by dsimp only; omega, okStep hok ⟨fun hd => ⟨g103, ⟨by omega, by omega⟩, (dist_iff (by omega)).2 (of_ndec (of_n_t (b := dec (g.rules.getD i ByteArray.empty ∈ g.rules.take i)) hd))⟩, fun hh => congrArg (!·) (dec_f ((dist_iff (by omega)).1 hh.2.2))⟩, H15.pm (by repeat constructor)⟩, by dsimp only; omega⟩
     | exact ⟨(i + 1, _), (sc rfl (sc rfl (sc rfl (sc rfl (sc rfl (sc rfl (sn _))))))), ⟨by dsimp only; omega, okStep hok ⟨fun hd => absurd hd Bool.noConfusion, fun hh => absurd hh.2 (fun h_ => by have h_ := h_.1; omega)⟩, H15.pm (by repeat constructor)⟩, by dsimp only; omega⟩
  refine wM ?_
  refine wO g103 ?_
  refine wV (v_lens Try.underlying9 rfl) ?_
  refine wO g103 ?_
  refine wV (v_geq rfl rfl) ?_
  refine wV (v_pick_t rfl g103 rfl) ?_
  refine wM ?_
  refine wl_guard rfl rfl rfl (fun g108 => ?_) (fun g108 => ?_)
  rotate_left
  ·have g108p := oF g108
   refine wF g108 ?_
   refine wF g108 ?_
   refine wV (v_pick_f rfl g108 rfl) ?_
   refine wM ?_
   refine wF rfl ?_
   refine wF rfl ?_
   refine wF rfl ?_
   refine wF rfl ?_
   refine wV (v_pick_f rfl rfl rfl) ?_
   refine wA ?_
   refine wl_nil ?_
   refine wc_region ?_
   refine wM ?_
   refine wM ?_
   refine wl_mapset H (by repeat constructor) Try.underlying122 (show KS.ok (g.rules.getD i ByteArray.empty) from Nat.le_trans (hg.rs _ (getD_mem (z := ByteArray.empty) (show i < g.rules.length by omega))) (by decide)) (by unfold maxLen; omega) rfl rfl rfl ?_
   intro w14 H14
   refine wl_nil ?_
   refine wc_region ?_
   refine wV (v_addi rfl rfl (by omega)) ?_
   refine wM ?_
   refine wl_nil ?_
   rw [metF_succ (by omega)] at H14
   first
     | exact ⟨(i + 1, _), (sc rfl (sc rfl (sc rfl (sc rfl (sc rfl (sc rfl (sn _))))))), ⟨by dsimp only; omega, okStep hok ⟨fun hd => absurd hd Bool.noConfusion, fun hh => absurd (hh.1.symm.trans g103) Bool.noConfusion⟩, H14.pm (by repeat constructor)⟩, by dsimp only; omega⟩
     | exact ⟨(i + 1, _), (sc rfl (sc rfl (sc rfl (sc rfl (sc rfl (sc rfl (sn _))))))), ⟨by dsimp only; omega, okStep hok ⟨fun hd => ⟨g103, ⟨by omega, by omega⟩, (dist_iff (by omega)).2 (of_ndec (of_n_t (b := dec (g.rules.getD i ByteArray.empty ∈ g.rules.take i)) hd))⟩, fun hh => congrArg (!·) (dec_f ((dist_iff (by omega)).1 hh.2.2))⟩, H14.pm (by repeat constructor)⟩, by dsimp only; omega⟩
     | exact ⟨(i + 1, _), (sc rfl (sc rfl (sc rfl (sc rfl (sc rfl (sc rfl (sn _))))))), ⟨by dsimp only; omega, okStep hok ⟨fun hd => absurd hd Bool.noConfusion, fun hh => absurd hh.2 (fun h_ => by have h_ := h_.1; omega)⟩, H14.pm (by repeat constructor)⟩, by dsimp only; omega⟩
  have g108p := oT g108
  refine wM ?_
  refine wO g108 ?_
  refine wV (v_lens Try.underlying9 rfl) ?_
  refine wO g108 ?_
  refine wV (v_leq rfl rfl) ?_
  refine wV (v_pick_t rfl g108 rfl) ?_
  refine wM ?_
  refine wl_guard rfl rfl rfl (fun g113 => ?_) (fun g113 => ?_)
  rotate_left
  ·have g113p := oF g113
   refine wF g113 ?_
   refine wF g113 ?_
   refine wF g113 ?_
   refine wV (v_pick_f rfl g113 rfl) ?_
   refine wA ?_
   refine wl_nil ?_
   refine wc_region ?_
   refine wM ?_
   refine wM ?_
   refine wl_mapset H (by repeat constructor) Try.underlying122 (show KS.ok (g.rules.getD i ByteArray.empty) from Nat.le_trans (hg.rs _ (getD_mem (z := ByteArray.empty) (show i < g.rules.length by omega))) (by decide)) (by unfold maxLen; omega) rfl rfl rfl ?_
   intro w13 H13
   refine wl_nil ?_
   refine wc_region ?_
   refine wV (v_addi rfl rfl (by omega)) ?_
   refine wM ?_
   refine wl_nil ?_
   rw [metF_succ (by omega)] at H13
   first
     | exact ⟨(i + 1, _), (sc rfl (sc rfl (sc rfl (sc rfl (sc rfl (sc rfl (sn _))))))), ⟨by dsimp only; omega, okStep hok ⟨fun hd => absurd hd Bool.noConfusion, fun hh => absurd (hh.1.symm.trans g103) Bool.noConfusion⟩, H13.pm (by repeat constructor)⟩, by dsimp only; omega⟩
     | exact ⟨(i + 1, _), (sc rfl (sc rfl (sc rfl (sc rfl (sc rfl (sc rfl (sn _))))))), ⟨by dsimp only; omega, okStep hok ⟨fun hd => ⟨g103, ⟨by omega, by omega⟩, (dist_iff (by omega)).2 (of_ndec (of_n_t (b := dec (g.rules.getD i ByteArray.empty ∈ g.rules.take i)) hd))⟩, fun hh => congrArg (!·) (dec_f ((dist_iff (by omega)).1 hh.2.2))⟩, H13.pm (by repeat constructor)⟩, by dsimp only; omega⟩
     | exact ⟨(i + 1, _), (sc rfl (sc rfl (sc rfl (sc rfl (sc rfl (sc rfl (sn _))))))), ⟨by dsimp only; omega, okStep hok ⟨fun hd => absurd hd Bool.noConfusion, fun hh => absurd hh.2 (fun h_ => by have h_ := h_.1; omega)⟩, H13.pm (by repeat constructor)⟩, by dsimp only; omega⟩
  have g113p := oT g113
  refine wM ?_
  refine wO g113 ?_
  refine wM ?_
  refine wO g113 ?_
  refine wV (v_look' H (by repeat constructor) Try.underlying122 zv4 (show KS.ok (g.rules.getD i ByteArray.empty) from Nat.le_trans (hg.rs _ (getD_mem (z := ByteArray.empty) (show i < g.rules.length by omega))) (by decide)) rfl rfl (metF_get _ _)) ?_
  refine wO g113 ?_
  refine wV (v_not rfl) ?_
  refine wV (v_pick_t rfl g113 rfl) ?_
  refine wA ?_
  refine wl_nil ?_
  refine wc_region ?_
  refine wM ?_
  refine wM ?_
  refine wl_mapset H (by repeat constructor) Try.underlying122 (show KS.ok (g.rules.getD i ByteArray.empty) from Nat.le_trans (hg.rs _ (getD_mem (z := ByteArray.empty) (show i < g.rules.length by omega))) (by decide)) (by unfold maxLen; omega) rfl rfl rfl ?_
  intro w12 H12
  refine wl_nil ?_
  refine wc_region ?_
  refine wV (v_addi rfl rfl (by omega)) ?_
  refine wM ?_
  refine wl_nil ?_
  rw [metF_succ (by omega)] at H12
  first
    | exact ⟨(i + 1, _), (sc rfl (sc rfl (sc rfl (sc rfl (sc rfl (sc rfl (sn _))))))), ⟨by dsimp only; omega, okStep hok ⟨fun hd => absurd hd Bool.noConfusion, fun hh => absurd (hh.1.symm.trans g103) Bool.noConfusion⟩, H12.pm (by repeat constructor)⟩, by dsimp only; omega⟩
    | exact ⟨(i + 1, _), (sc rfl (sc rfl (sc rfl (sc rfl (sc rfl (sc rfl (sn _))))))), ⟨by dsimp only; omega, okStep hok ⟨fun hd => ⟨g103, ⟨by omega, by omega⟩, (dist_iff (by omega)).2 (of_ndec (of_n_t (b := dec (g.rules.getD i ByteArray.empty ∈ g.rules.take i)) hd))⟩, fun hh => congrArg (!·) (dec_f ((dist_iff (by omega)).1 hh.2.2))⟩, H12.pm (by repeat constructor)⟩, by dsimp only; omega⟩
    | exact ⟨(i + 1, _), (sc rfl (sc rfl (sc rfl (sc rfl (sc rfl (sc rfl (sn _))))))), ⟨by dsimp only; omega, okStep hok ⟨fun hd => absurd hd Bool.noConfusion, fun hh => absurd hh.2 (fun h_ => by have h_ := h_.1; omega)⟩, H12.pm (by repeat constructor)⟩, by dsimp only; omega⟩

set_option maxHeartbeats 6400000 in
set_option maxRecDepth 100000 in
theorem rgcheck_calls {g : Pl} {a : PlA} {w : World} (hr : g.rd w a) (hg : g.ok) :
    Calls Try.prog 68 #[.agg #[.slice a.k g.kinds.length a.ck, .slice a.p g.precs.length a.cp, .slice a.r g.rules.length a.cr, .slice a.q g.prods.length a.cq, .int .i64 g.start]] w fun e w' => ∃ v, e = .returned v ∧ v = .int .i64 (checkG g) ∧ Holds w [] w' := by
  have hgk := hg.k
  have hgr := hg.r
  have hgp := hg.p
  have hgq := hg.q
  refine calls_of Try.func68 rfl Try.ntmps68 rfl ?_
  have H := Holds.start w
  refine wcR ?_
  refine wl_box (cs := [_, _, _, _, _]) H rfl rfl rfl ?_
  intro b1 w1 hb1 H2
  refine wA ?_
  refine wl_nil ?_
  refine wc_seq ?_
  refine wc_cut (σ := Bool) (fun q => [(1, .pointer (some ⟨b1, 0, none⟩)), (28, .bool q)]) (fun q W => q = dec (¬ (KindsOk g.kinds ∧ g.precs.length = g.kinds.length ∧ PrecsOk g.precs ∧ RulesOk g.rules)) ∧ Holds w [Blk b1 44 [.slice a.k g.kinds.length a.ck, .slice a.p g.precs.length a.cp, .slice a.r g.rules.length a.cr, .slice a.q g.prods.length a.cq, .int .i64 g.start]] W) ?_ ?_
  ·refine wc_region ?_
   refine wV (v_fb (o2 := 0) fa44_0 rfl rfl) ?_
   refine wV (v_load one40 rfl (H2.at (by repeat constructor) rfl)) ?_
   refine wl_call en84 rfl rfl (rkinds_calls (hr.k.below H2.old) hg.k hg.ks) ?_
   rintro _ w3 ⟨rfl, Hc⟩
   have H4 := H2.call0 Hc
   refine wV (v_not rfl) ?_
   refine wM ?_
   refine wl_guard rfl rfl rfl (fun g8 => ?_) (fun g8 => ?_)
   rotate_left
   ·have g8p := of_n_t g8
    refine wF g8 ?_
    refine wF g8 ?_
    refine wF g8 ?_
    refine wF g8 ?_
    refine wF g8 ?_
    refine wF g8 ?_
    refine wV (v_pick_t rfl g8 rfl) ?_
    refine wM ?_
    refine wF rfl ?_
    refine wF rfl ?_
    refine wF rfl ?_
    refine wF rfl ?_
    refine wV (v_pick_t rfl rfl rfl) ?_
    refine wM ?_
    refine wF rfl ?_
    refine wF rfl ?_
    refine wF rfl ?_
    refine wF rfl ?_
    refine wV (v_pick_t rfl rfl rfl) ?_
    refine wl_nil ?_
    first
      | exact ⟨_, (sc rfl (sc rfl (sn _))), ⟨dec_eq ⟨fun hd hh => of_ndec (of_n_t hd) hh.2.2.2, fun hh => congrArg (!·) (dec_f fun h_ => hh ⟨of_dec (of_n_f g8), by omega, of_dec (of_n_f g23), h_⟩)⟩, H4⟩⟩
      | exact ⟨_, (sc rfl (sc rfl (sn _))), ⟨(dec_t fun hh => of_ndec (of_n_t g8) hh.1).symm, H4⟩⟩
      | exact ⟨_, (sc rfl (sc rfl (sn _))), ⟨(dec_t fun hh => by have h_ := hh.2.1; omega).symm, H4⟩⟩
      | exact ⟨_, (sc rfl (sc rfl (sn _))), ⟨(dec_t fun hh => of_ndec (of_n_t g23) hh.2.2.1).symm, H4⟩⟩
   have g8p := of_n_f g8
   refine wV (v_fb (o2 := 1) fa44_1 rfl rfl) ?_
   refine wO g8 ?_
   refine wV (v_load one41 rfl (H4.at (by repeat constructor) rfl)) ?_
   refine wO g8 ?_
   refine wV (v_len Try.underlying41 rfl) ?_
   refine wO g8 ?_
   refine wV (v_fb (o2 := 0) fa44_0 rfl rfl) ?_
   refine wO g8 ?_
   refine wV (v_load one40 rfl (H4.at (by repeat constructor) rfl)) ?_
   refine wO g8 ?_
   refine wV (v_len Try.underlying40 rfl) ?_
   refine wO g8 ?_
   refine wV (v_neq rfl rfl) ?_
   refine wV (v_pick_f rfl g8 rfl) ?_
   refine wM ?_
   refine wl_guard rfl rfl rfl (fun g17 => ?_) (fun g17 => ?_)
   rotate_left
   ·have g17p := of_nd_t g17
    refine wF g17 ?_
    refine wF g17 ?_
    refine wF g17 ?_
    refine wV (v_pick_t rfl g17 rfl) ?_
    refine wM ?_
    refine wF rfl ?_
    refine wF rfl ?_
    refine wF rfl ?_
    refine wF rfl ?_
    refine wV (v_pick_t rfl rfl rfl) ?_
    refine wl_nil ?_
    first
      | exact ⟨_, (sc rfl (sc rfl (sn _))), ⟨dec_eq ⟨fun hd hh => of_ndec (of_n_t hd) hh.2.2.2, fun hh => congrArg (!·) (dec_f fun h_ => hh ⟨of_dec (of_n_f g8), by omega, of_dec (of_n_f g23), h_⟩)⟩, H4⟩⟩
      | exact ⟨_, (sc rfl (sc rfl (sn _))), ⟨(dec_t fun hh => of_ndec (of_n_t g8) hh.1).symm, H4⟩⟩
      | exact ⟨_, (sc rfl (sc rfl (sn _))), ⟨(dec_t fun hh => by have h_ := hh.2.1; omega).symm, H4⟩⟩
      | exact ⟨_, (sc rfl (sc rfl (sn _))), ⟨(dec_t fun hh => of_ndec (of_n_t g23) hh.2.2.1).symm, H4⟩⟩
   have g17p := of_nd_f g17
   refine wV (v_fb (o2 := 1) fa44_1 rfl rfl) ?_
   refine wO g17 ?_
   refine wV (v_load one41 rfl (H4.at (by repeat constructor) rfl)) ?_
   refine wO g17 ?_
   refine wl_call en85 rfl rfl (rlevels_calls (hr.p.below H4.old) hg.p) ?_
   rintro _ w5 ⟨rfl, Hc⟩
   have H6 := H4.call0 Hc
   refine wO g17 ?_
   refine wV (v_not rfl) ?_
   refine wV (v_pick_f rfl g17 rfl) ?_
   refine wM ?_
   refine wl_guard rfl rfl rfl (fun g23 => ?_) (fun g23 => ?_)
   rotate_left
   ·have g23p := of_n_t g23
    refine wF g23 ?_
    refine wF g23 ?_
    refine wF g23 ?_
    refine wV (v_pick_t rfl g23 rfl) ?_
    refine wl_nil ?_
    first
      | exact ⟨_, (sc rfl (sc rfl (sn _))), ⟨dec_eq ⟨fun hd hh => of_ndec (of_n_t hd) hh.2.2.2, fun hh => congrArg (!·) (dec_f fun h_ => hh ⟨of_dec (of_n_f g8), by omega, of_dec (of_n_f g23), h_⟩)⟩, H6⟩⟩
      | exact ⟨_, (sc rfl (sc rfl (sn _))), ⟨(dec_t fun hh => of_ndec (of_n_t g8) hh.1).symm, H6⟩⟩
      | exact ⟨_, (sc rfl (sc rfl (sn _))), ⟨(dec_t fun hh => by have h_ := hh.2.1; omega).symm, H6⟩⟩
      | exact ⟨_, (sc rfl (sc rfl (sn _))), ⟨(dec_t fun hh => of_ndec (of_n_t g23) hh.2.2.1).symm, H6⟩⟩
   have g23p := of_n_f g23
   refine wV (v_fb (o2 := 2) fa44_2 rfl rfl) ?_
   refine wO g23 ?_
   refine wV (v_load one40 rfl (H6.at (by repeat constructor) rfl)) ?_
   refine wO g23 ?_
   refine wl_call en86 rfl rfl (rnames_calls (hr.r.below H6.old) hg.r) ?_
   rintro _ w7 ⟨rfl, Hc⟩
   have H8 := H6.call0 Hc
   refine wO g23 ?_
   refine wV (v_not rfl) ?_
   refine wV (v_pick_f rfl g23 rfl) ?_
   refine wl_nil ?_
   first
     | exact ⟨_, (sc rfl (sc rfl (sn _))), ⟨dec_eq ⟨fun hd hh => of_ndec (of_n_t hd) hh.2.2.2, fun hh => congrArg (!·) (dec_f fun h_ => hh ⟨of_dec (of_n_f g8), by omega, of_dec (of_n_f g23), h_⟩)⟩, H8⟩⟩
     | exact ⟨_, (sc rfl (sc rfl (sn _))), ⟨(dec_t fun hh => of_ndec (of_n_t g8) hh.1).symm, H8⟩⟩
     | exact ⟨_, (sc rfl (sc rfl (sn _))), ⟨(dec_t fun hh => by have h_ := hh.2.1; omega).symm, H8⟩⟩
     | exact ⟨_, (sc rfl (sc rfl (sn _))), ⟨(dec_t fun hh => of_ndec (of_n_t g23) hh.2.2.1).symm, H8⟩⟩
  rintro bad Wm ⟨hbad, H⟩
  refine wc_cond rfl (fun c0 => ?_) (fun c0 => ?_)
  ·have hno := of_dec (hbad.symm.trans c0)
   refine wcR ?_
   refine wA ?_
   refine wl_nil ?_
   refine wc_ret ?_
   first
     | exact ⟨_, res1 rfl rfl, congrArg (Value.int .i64) (checkG_f fun hh => hno hh.1).symm, H.pm (Pm.nil _)⟩
     | exact ⟨_, res1 rfl rfl, congrArg (Value.int .i64) (checkG_f fun hh => hno hh.2.1).symm, H.pm (Pm.nil _)⟩
     | exact ⟨_, res1 rfl rfl, congrArg (Value.int .i64) (checkG_f fun hh => of_ndec (of_n_t c3) (hh.2.2 i (by omega))).symm, H.pm (Pm.nil _)⟩
     | exact ⟨_, res1 rfl rfl, congrArg (Value.int .i64) (checkG_t ⟨hA4, hS2, fun j hj => ha j (by omega)⟩).symm, H.pm (Pm.nil _)⟩
  have hA4 : (KindsOk g.kinds ∧ g.precs.length = g.kinds.length ∧ PrecsOk g.precs ∧ RulesOk g.rules) := Classical.byContradiction fun h_ => of_ndec (hbad.symm.trans c0) h_
  refine wc_skip ?_
  refine wc_seq ?_
  refine wc_cut (σ := Bool) (fun q => [(1, .pointer (some ⟨b1, 0, none⟩)), (45, .bool q)]) (fun q W => q = dec (¬ ((0 ≤ g.start ∧ g.start < g.rules.length) ∧ g.prods.length ≤ 4096)) ∧ Holds w [Blk b1 44 [.slice a.k g.kinds.length a.ck, .slice a.p g.precs.length a.cp, .slice a.r g.rules.length a.cr, .slice a.q g.prods.length a.cq, .int .i64 g.start]] W) ?_ ?_
  ·refine wc_region ?_
   refine wV (v_fb (o2 := 4) fa44_4 rfl rfl) ?_
   refine wV (v_load one3 rfl (H.at (by repeat constructor) rfl)) ?_
   refine wV (v_lss rfl rfl) ?_
   refine wM ?_
   refine wl_guard rfl rfl rfl (fun g32 => ?_) (fun g32 => ?_)
   rotate_left
   ·have g32p := oT g32
    refine wF g32 ?_
    refine wF g32 ?_
    refine wF g32 ?_
    refine wF g32 ?_
    refine wF g32 ?_
    refine wV (v_pick_t rfl g32 rfl) ?_
    refine wM ?_
    refine wF rfl ?_
    refine wF rfl ?_
    refine wF rfl ?_
    refine wF rfl ?_
    refine wV (v_pick_t rfl rfl rfl) ?_
    refine wl_nil ?_
    first
      | exact ⟨_, (sc rfl (sc rfl (sn _))), ⟨dec_eq ⟨fun hd => by (have h_ := oT hd; omega), fun hh => decide_eq_true (by omega)⟩, H⟩⟩
      | exact ⟨_, (sc rfl (sc rfl (sn _))), ⟨(dec_t (by omega)).symm, H⟩⟩
   have g32p := oF g32
   refine wV (v_fb (o2 := 4) fa44_4 rfl rfl) ?_
   refine wO g32 ?_
   refine wV (v_load one3 rfl (H.at (by repeat constructor) rfl)) ?_
   refine wO g32 ?_
   refine wV (v_fb (o2 := 2) fa44_2 rfl rfl) ?_
   refine wO g32 ?_
   refine wV (v_load one40 rfl (H.at (by repeat constructor) rfl)) ?_
   refine wO g32 ?_
   refine wV (v_len Try.underlying40 rfl) ?_
   refine wO g32 ?_
   refine wV (v_geq rfl rfl) ?_
   refine wV (v_pick_f rfl g32 rfl) ?_
   refine wM ?_
   refine wl_guard rfl rfl rfl (fun g40 => ?_) (fun g40 => ?_)
   rotate_left
   ·have g40p := oT g40
    refine wF g40 ?_
    refine wF g40 ?_
    refine wF g40 ?_
    refine wV (v_pick_t rfl g40 rfl) ?_
    refine wl_nil ?_
    first
      | exact ⟨_, (sc rfl (sc rfl (sn _))), ⟨dec_eq ⟨fun hd => by (have h_ := oT hd; omega), fun hh => decide_eq_true (by omega)⟩, H⟩⟩
      | exact ⟨_, (sc rfl (sc rfl (sn _))), ⟨(dec_t (by omega)).symm, H⟩⟩
   have g40p := oF g40
   refine wV (v_fb (o2 := 3) fa44_3 rfl rfl) ?_
   refine wO g40 ?_
   refine wV (v_load one42 rfl (H.at (by repeat constructor) rfl)) ?_
   refine wO g40 ?_
   refine wV (v_len Try.underlying42 rfl) ?_
   refine wO g40 ?_
   refine wV (v_gtr rfl rfl) ?_
   refine wV (v_pick_f rfl g40 rfl) ?_
   refine wl_nil ?_
   first
     | exact ⟨_, (sc rfl (sc rfl (sn _))), ⟨dec_eq ⟨fun hd => by (have h_ := oT hd; omega), fun hh => decide_eq_true (by omega)⟩, H⟩⟩
     | exact ⟨_, (sc rfl (sc rfl (sn _))), ⟨(dec_t (by omega)).symm, H⟩⟩
  rintro bad2 Wm ⟨hbad2, H⟩
  refine wc_cond rfl (fun c1 => ?_) (fun c1 => ?_)
  ·have hno := of_dec (hbad2.symm.trans c1)
   refine wcR ?_
   refine wA ?_
   refine wl_nil ?_
   refine wc_ret ?_
   first
     | exact ⟨_, res1 rfl rfl, congrArg (Value.int .i64) (checkG_f fun hh => hno hh.1).symm, H.pm (Pm.nil _)⟩
     | exact ⟨_, res1 rfl rfl, congrArg (Value.int .i64) (checkG_f fun hh => hno hh.2.1).symm, H.pm (Pm.nil _)⟩
     | exact ⟨_, res1 rfl rfl, congrArg (Value.int .i64) (checkG_f fun hh => of_ndec (of_n_t c3) (hh.2.2 i (by omega))).symm, H.pm (Pm.nil _)⟩
     | exact ⟨_, res1 rfl rfl, congrArg (Value.int .i64) (checkG_t ⟨hA4, hS2, fun j hj => ha j (by omega)⟩).symm, H.pm (Pm.nil _)⟩
  have hS2 : ((0 ≤ g.start ∧ g.start < g.rules.length) ∧ g.prods.length ≤ 4096) := Classical.byContradiction fun h_ => of_ndec (hbad2.symm.trans c1) h_
  refine wc_skip ?_
  refine wc_seq ?_
  refine wcR ?_
  refine wA ?_
  refine wl_nil ?_
  refine wc_block ?_
  refine wc_loop (σ := Nat) (fun s => [(1, .pointer (some ⟨b1, 0, none⟩)), (3, .int .i64 s)]) (fun s W => s ≤ g.prods.length ∧ (∀ j, j < s → PrOk g (g.prods.getD j pr0)) ∧ Holds w [Blk b1 44 [.slice a.k g.kinds.length a.ck, .slice a.p g.precs.length a.cp, .slice a.r g.rules.length a.cr, .slice a.q g.prods.length a.cq, .int .i64 g.start]] W) (fun s => g.prods.length - s) 0 (sc rfl (sc rfl (sn _))) ⟨Nat.zero_le _, upto_zero, H⟩ ?_
  rintro i W0 ⟨hi, ha, H⟩
  refine wc_seq ?_
  refine wcR ?_
  refine wM ?_
  refine wV (v_fb (o2 := 3) fa44_3 rfl rfl) ?_
  refine wV (v_load one42 rfl (H.at (by repeat constructor) rfl)) ?_
  refine wV (v_len Try.underlying42 rfl) ?_
  refine wV (v_lss rfl rfl) ?_
  refine wl_nil ?_
  refine wc_cond rfl (fun c2 => ?_) (fun c2 => ?_)
  rotate_left
  ·have c2p := oF c2
   refine wc_exit ?_
   refine wcR ?_
   refine wA ?_
   refine wl_nil ?_
   refine wc_ret ?_
   first
     | exact ⟨_, res1 rfl rfl, congrArg (Value.int .i64) (checkG_f fun hh => hno hh.1).symm, H.pm (Pm.nil _)⟩
     | exact ⟨_, res1 rfl rfl, congrArg (Value.int .i64) (checkG_f fun hh => hno hh.2.1).symm, H.pm (Pm.nil _)⟩
     | exact ⟨_, res1 rfl rfl, congrArg (Value.int .i64) (checkG_f fun hh => of_ndec (of_n_t c3) (hh.2.2 i (by omega))).symm, H.pm (Pm.nil _)⟩
     | exact ⟨_, res1 rfl rfl, congrArg (Value.int .i64) (checkG_t ⟨hA4, hS2, fun j hj => ha j (by omega)⟩).symm, H.pm (Pm.nil _)⟩
  have c2p := oT c2
  refine wc_skip ?_
  refine wc_seq ?_
  refine wc_block ?_
  refine wc_seq ?_
  refine wc_tree [0, 1, 2, 3, 4, 5, 7] (fun W => Holds w [Blk b1 44 [.slice a.k g.kinds.length a.ck, .slice a.p g.precs.length a.cp, .slice a.r g.rules.length a.cr, .slice a.q g.prods.length a.cq, .int .i64 g.start]] W) mixed ?_
  have Hd := H.drew
  have HSd : Holds w [Blk b1 44 [.slice a.k g.kinds.length a.ck, .slice a.p g.precs.length a.cp, .slice a.r g.rules.length a.cr, .slice a.q g.prods.length a.cq, .int .i64 g.start]] _ := Hd.pm (by repeat constructor)
  refine wjV (k := 0) rfl HSd (fun W HW => v_loadN agg44 rfl rfl (HW.ats (by repeat constructor))) ?_
  refine wjV (k := 1) rfl HSd (fun W HW => v_fb (o2 := 3) fa44_3 rfl rfl) ?_
  refine wjV (k := 2) rfl HSd (fun W HW => v_load one42 rfl (HW.at (by repeat constructor) rfl)) ?_
  refine wjV (k := 3) rfl HSd (fun W HW => v_move rfl) ?_
  refine wjV (k := 4) rfl HSd (fun W HW => v_idx Try.underlying42 sz73 hr.q.ad rfl rfl (by omega) (by omega)) ?_
  obtain ⟨R58_, c58_, B58_, k58_, hc58_, hl58_, hR58_, hB58_⟩ := hr.q.atPr (i := i) (by omega)
  refine wjV (k := 5) rfl HSd (fun W HW => v_loadN (cs := [.int .i64 (g.prods.getD i pr0).left, .slice R58_ (g.prods.getD i pr0).right.length c58_, .int .i64 (g.prods.getD i pr0).level, .int .i64 (g.prods.getD i pr0).act.x.kind, .int .i64 (g.prods.getD i pr0).act.x.at_, .string (g.prods.getD i pr0).act.x.name, .slice B58_ (g.prods.getD i pr0).act.kids.length k58_]) agg73 rfl rfl (fun q_ u_ hu_ => HW.cell (hc58_ q_ u_ hu_))) ?_
  refine wj_t (k := 6) rfl (by kernel_rfl) ?_
  refine wl_call en87 rfl rfl (rprod_calls hg hl58_ (hR58_.below Hd.old) (hB58_.below Hd.old) (hg.qr _ (getD_mem (z := pr0) (show i < g.prods.length by omega))) (hg.qa _ (getD_mem (z := pr0) (show i < g.prods.length by omega)))) ?_
  rintro _ w9 ⟨rfl, Hc⟩
  have H10 := Hd.call0 Hc
  have HS11 : Holds w [Blk b1 44 [.slice a.k g.kinds.length a.ck, .slice a.p g.precs.length a.cp, .slice a.r g.rules.length a.cr, .slice a.q g.prods.length a.cq, .int .i64 g.start]] _ := H10.pm (by repeat constructor)
  refine wl_nil (tn ⟨fun _ => HS11, ?_⟩)
  refine wjV (k := 7) rfl HS11 (fun W HW => v_not rfl) ?_
  refine wj_done (by kernel_rfl) ?_
  refine wc_cond rfl (fun c3 => ?_) (fun c3 => ?_)
  rotate_left
  ·have c3p := of_n_f c3
   refine wc_skip ?_
   refine wc_region ?_
   refine wM ?_
   refine wV (v_addi rfl rfl (by omega)) ?_
   refine wA ?_
   refine wl_nil ?_
   exact ⟨i + 1, (sc rfl (sc rfl (sn _))), ⟨by omega, upto_succ ha (of_dec (of_n_f c3)), H10.pm (by repeat constructor)⟩, by omega⟩
  have c3p := of_n_t c3
  refine wcR ?_
  refine wA ?_
  refine wl_nil ?_
  refine wc_ret ?_
  first
    | exact ⟨_, res1 rfl rfl, congrArg (Value.int .i64) (checkG_f fun hh => hno hh.1).symm, H10.pm (Pm.nil _)⟩
    | exact ⟨_, res1 rfl rfl, congrArg (Value.int .i64) (checkG_f fun hh => hno hh.2.1).symm, H10.pm (Pm.nil _)⟩
    | exact ⟨_, res1 rfl rfl, congrArg (Value.int .i64) (checkG_f fun hh => of_ndec (of_n_t c3) (hh.2.2 i (by omega))).symm, H10.pm (Pm.nil _)⟩
    | exact ⟨_, res1 rfl rfl, congrArg (Value.int .i64) (checkG_t ⟨hA4, hS2, fun j hj => ha j (by omega)⟩).symm, H10.pm (Pm.nil _)⟩
end Go.Proofs.Ytgdemplcpcacaaa.GramW
