/- Which grammars may be. Which trees are derivations: the program's answer. -/
import Derived.Test.YtgdemplcpcacaaaProg
import Derived.Test.YtgdemplcpcacaaaK05
import Derived.Test.YtgdemplcpcacaaaK02
import Derived.Test.YtgdemplcpcacaaaK03
set_option linter.unusedVariables false
set_option linter.unusedSimpArgs false
/-! Which grammars may be. -/
namespace Go.Proofs.Ytgdemplcpcacaaa.GramW
open Go Go.RowKit Go.Proofs.YtgdemplcpcacaaaFx Go.Proofs.Ytgdemplcpcacaaa.PartsW Go.Proofs.Ytgdemplcpcacaaa.KindsW
theorem agg145 : Agg Try.prog 145 2 := agg_of Try.underlying145 (by kernel_rfl)
theorem agg44 : Agg Try.prog 44 5 := agg_of Try.underlying44 (by kernel_rfl)
theorem agg69 : Agg Try.prog 69 4 := agg_of Try.underlying69 (by kernel_rfl)
theorem agg73 : Agg Try.prog 73 7 := agg_of Try.underlying73 (by kernel_rfl)
theorem ba145 : BuildAt Try.prog 145 [.int .i64 0, .int .i64 0] [(0, 1), (1, 1)] := build_at Try.underlying145 (by kernel_rfl) (by kernel_rfl)
theorem en60 : Enters Try.prog 60 := enters Try.func60 (by kernel_rfl) rfl
theorem en61 : Enters Try.prog 61 := enters Try.func61 (by kernel_rfl) rfl
theorem en83 : Enters Try.prog 83 := enters Try.func83 (by kernel_rfl) rfl
theorem eqm145 : EqlMv Try.prog 145 := eql_mv (e := 3) Try.underlying145 (by kernel_rfl) (by kernel_rfl) Try.underlying3 rfl rfl
theorem fa145_0 : FieldAt Try.prog 145 0 0 := field_at (sz := 0) Try.underlying145 rfl (by kernel_rfl) rfl
theorem fa145_1 : FieldAt Try.prog 145 1 1 := field_at (sz := 0) Try.underlying145 rfl (by kernel_rfl) rfl
theorem fa44_0 : FieldAt Try.prog 44 0 0 := field_at (sz := 0) Try.underlying44 rfl (by kernel_rfl) rfl
theorem fa44_1 : FieldAt Try.prog 44 1 1 := field_at (sz := 0) Try.underlying44 rfl (by kernel_rfl) rfl
theorem fa44_2 : FieldAt Try.prog 44 2 2 := field_at (sz := 0) Try.underlying44 rfl (by kernel_rfl) rfl
theorem fa44_3 : FieldAt Try.prog 44 3 3 := field_at (sz := 0) Try.underlying44 rfl (by kernel_rfl) rfl
theorem fa44_4 : FieldAt Try.prog 44 4 4 := field_at (sz := 0) Try.underlying44 rfl (by kernel_rfl) rfl
theorem fa73_0 : FieldAt Try.prog 73 0 0 := field_at (sz := 0) Try.underlying73 rfl (by kernel_rfl) rfl
theorem fa73_1 : FieldAt Try.prog 73 1 1 := field_at (sz := 0) Try.underlying73 rfl (by kernel_rfl) rfl
theorem fa73_2 : FieldAt Try.prog 73 2 2 := field_at (sz := 0) Try.underlying73 rfl (by kernel_rfl) rfl
theorem fa73_3 : FieldAt Try.prog 73 3 3 := field_at (sz := 3) Try.underlying73 rfl (by kernel_rfl) rfl
theorem one3 : One Try.prog 3 := one_of Try.underlying3 rfl (by kernel_rfl)
theorem one40 : One Try.prog 40 := one_of Try.underlying40 rfl (by kernel_rfl)
theorem one41 : One Try.prog 41 := one_of Try.underlying41 rfl (by kernel_rfl)
theorem one42 : One Try.prog 42 := one_of Try.underlying42 rfl (by kernel_rfl)
theorem one51 : One Try.prog 51 := one_of Try.underlying51 rfl (by kernel_rfl)
theorem one9 : One Try.prog 9 := one_of Try.underlying9 rfl (by kernel_rfl)
theorem sz145 : ∀ W, (sizeOf 145).run Try.prog W = .ok 2 W := size_of (by kernel_rfl)
theorem sz3 : ∀ W, (sizeOf 3).run Try.prog W = .ok 1 W := size_of (by kernel_rfl)
theorem sz73 : ∀ W, (sizeOf 73).run Try.prog W = .ok 7 W := size_of (by kernel_rfl)
theorem sz9 : ∀ W, (sizeOf 9).run Try.prog W = .ok 1 W := size_of (by kernel_rfl)
theorem zv145 : ∀ W, (zeroValue 145).run Try.prog W = .ok (.agg #[.int .i64 0, .int .i64 0]) W := zero_of (by kernel_rfl)
theorem zv3 : ∀ W, (zeroValue 3).run Try.prog W = .ok (.int .i64 0) W := zero_of (by kernel_rfl)
theorem zv4 : ∀ W, (zeroValue 4).run Try.prog W = .ok (.bool false) W := zero_of (by kernel_rfl)
theorem zv73 : ∀ W, (zeroValue 73).run Try.prog W = .ok (.agg #[.int .i64 0, .slice none 0 0, .int .i64 0, .int .i64 0, .int .i64 0, .string ⟨#[]⟩, .slice none 0 0]) W := zero_of (by kernel_rfl)

set_option maxHeartbeats 3200000 in
set_option maxRecDepth 100000 in
theorem prod_calls {g : Pl} {a : PlA} {p : Pr} {R B : Option Addr} {c k : Nat} {w : World} (hg : g.ok) (hl : p.right.length ≤ c ∧ p.act.kids.length ≤ k) (hR : Rd (kInt .i64) w R p.right) (hB : Rd (kTr fAc) w B p.act.kids) (hpl : p.right.length ≤ 1099511627776) (hpc : p.act.cnt ≤ 1099511627776) :
    Calls Try.prog 61 #[.agg #[.slice a.k g.kinds.length a.ck, .slice a.p g.precs.length a.cp, .slice a.r g.rules.length a.cr, .slice a.q g.prods.length a.cq, .int .i64 g.start], .agg #[.int .i64 p.left, .slice R p.right.length c, .int .i64 p.level, .int .i64 p.act.x.kind, .int .i64 p.act.x.at_, .string p.act.x.name, .slice B p.act.kids.length k]] w fun e w' => ∃ v, e = .returned v ∧ v = .bool (dec (PrOk g p)) ∧ Holds w [] w' := by
  have hgk := hg.k
  have hgr := hg.r
  refine calls_of Try.func61 rfl Try.ntmps61 rfl ?_
  have H := Holds.start w
  refine wcR ?_
  refine wl_box (cs := [_, _, _, _, _]) H rfl rfl rfl ?_
  intro b2 w1 hb2 H2
  refine wl_box (cs := [_, _, _, _, _, _, _]) H2 rfl rfl rfl ?_
  intro b3 w3 hb3 H4
  refine wA ?_
  refine wl_nil ?_
  refine wc_seq ?_
  refine wc_cut (σ := Bool) (fun q => [(2, .pointer (some ⟨b2, 0, none⟩)), (3, .pointer (some ⟨b3, 0, none⟩)), (29, .bool q)]) (fun q W => q = dec (p.left < 0 ∨ (g.rules.length : Int) ≤ p.left ∨ 64 < p.right.length ∨ p.level < 0) ∧ Holds w [Blk b3 73 [.int .i64 p.left, .slice R p.right.length c, .int .i64 p.level, .int .i64 p.act.x.kind, .int .i64 p.act.x.at_, .string p.act.x.name, .slice B p.act.kids.length k], Blk b2 44 [.slice a.k g.kinds.length a.ck, .slice a.p g.precs.length a.cp, .slice a.r g.rules.length a.cr, .slice a.q g.prods.length a.cq, .int .i64 g.start]] W) ?_ ?_
  ·refine wc_region ?_
   refine wV (v_fb (o2 := 0) fa73_0 rfl rfl) ?_
   refine wV (v_load one3 rfl (H4.at (by repeat constructor) rfl)) ?_
   refine wV (v_lss rfl rfl) ?_
   refine wM ?_
   refine wl_guard rfl rfl rfl (fun g11 => ?_) (fun g11 => ?_)
   rotate_left
   ·have g11p := oT g11
    refine wF g11 ?_
    refine wF g11 ?_
    refine wF g11 ?_
    refine wF g11 ?_
    refine wF g11 ?_
    refine wV (v_pick_t rfl g11 rfl) ?_
    refine wM ?_
    refine wF rfl ?_
    refine wF rfl ?_
    refine wF rfl ?_
    refine wF rfl ?_
    refine wV (v_pick_t rfl rfl rfl) ?_
    refine wM ?_
    refine wF rfl ?_
    refine wF rfl ?_
    refine wF rfl ?_
    refine wV (v_pick_t rfl rfl rfl) ?_
    refine wl_nil ?_
    first
      | exact ⟨_, (sc rfl (sc rfl (sc rfl (sn _)))), ⟨dec_eq ⟨fun hd => by (have h_ := oT hd; omega), fun hh => decide_eq_true (by omega)⟩, H4⟩⟩
      | exact ⟨_, (sc rfl (sc rfl (sc rfl (sn _)))), ⟨(dec_t (by omega)).symm, H4⟩⟩
   have g11p := oF g11
   refine wV (v_fb (o2 := 0) fa73_0 rfl rfl) ?_
   refine wO g11 ?_
   refine wV (v_load one3 rfl (H4.at (by repeat constructor) rfl)) ?_
   refine wO g11 ?_
   refine wV (v_fb (o2 := 2) fa44_2 rfl rfl) ?_
   refine wO g11 ?_
   refine wV (v_load one40 rfl (H4.at (by repeat constructor) rfl)) ?_
   refine wO g11 ?_
   refine wV (v_len Try.underlying40 rfl) ?_
   refine wO g11 ?_
   refine wV (v_geq rfl rfl) ?_
   refine wV (v_pick_f rfl g11 rfl) ?_
   refine wM ?_
   refine wl_guard rfl rfl rfl (fun g19 => ?_) (fun g19 => ?_)
   rotate_left
   ·have g19p := oT g19
    refine wF g19 ?_
    refine wF g19 ?_
    refine wF g19 ?_
    refine wV (v_pick_t rfl g19 rfl) ?_
    refine wM ?_
    refine wF rfl ?_
    refine wF rfl ?_
    refine wF rfl ?_
    refine wV (v_pick_t rfl rfl rfl) ?_
    refine wl_nil ?_
    first
      | exact ⟨_, (sc rfl (sc rfl (sc rfl (sn _)))), ⟨dec_eq ⟨fun hd => by (have h_ := oT hd; omega), fun hh => decide_eq_true (by omega)⟩, H4⟩⟩
      | exact ⟨_, (sc rfl (sc rfl (sc rfl (sn _)))), ⟨(dec_t (by omega)).symm, H4⟩⟩
   have g19p := oF g19
   refine wV (v_fb (o2 := 1) fa73_1 rfl rfl) ?_
   refine wO g19 ?_
   refine wV (v_load one51 rfl (H4.at (by repeat constructor) rfl)) ?_
   refine wO g19 ?_
   refine wV (v_len Try.underlying51 rfl) ?_
   refine wO g19 ?_
   refine wV (v_gtr rfl rfl) ?_
   refine wV (v_pick_f rfl g19 rfl) ?_
   refine wM ?_
   refine wl_guard rfl rfl rfl (fun g25 => ?_) (fun g25 => ?_)
   rotate_left
   ·have g25p := oT g25
    refine wF g25 ?_
    refine wF g25 ?_
    refine wV (v_pick_t rfl g25 rfl) ?_
    refine wl_nil ?_
    first
      | exact ⟨_, (sc rfl (sc rfl (sc rfl (sn _)))), ⟨dec_eq ⟨fun hd => by (have h_ := oT hd; omega), fun hh => decide_eq_true (by omega)⟩, H4⟩⟩
      | exact ⟨_, (sc rfl (sc rfl (sc rfl (sn _)))), ⟨(dec_t (by omega)).symm, H4⟩⟩
   have g25p := oF g25
   refine wV (v_fb (o2 := 2) fa73_2 rfl rfl) ?_
   refine wO g25 ?_
   refine wV (v_load one3 rfl (H4.at (by repeat constructor) rfl)) ?_
   refine wO g25 ?_
   refine wV (v_lss rfl rfl) ?_
   refine wV (v_pick_f rfl g25 rfl) ?_
   refine wl_nil ?_
   first
     | exact ⟨_, (sc rfl (sc rfl (sc rfl (sn _)))), ⟨dec_eq ⟨fun hd => by (have h_ := oT hd; omega), fun hh => decide_eq_true (by omega)⟩, H4⟩⟩
     | exact ⟨_, (sc rfl (sc rfl (sc rfl (sn _)))), ⟨(dec_t (by omega)).symm, H4⟩⟩
  rintro bad Wm ⟨hbad, H⟩
  refine wc_cond rfl (fun c0 => ?_) (fun c0 => ?_)
  ·have hno : ¬ ((0 ≤ p.left ∧ p.left < g.rules.length) ∧ p.right.length ≤ 64 ∧ 0 ≤ p.level) := by (have h_ := of_dec (hbad.symm.trans c0); omega)
   refine wcR ?_
   refine wA ?_
   refine wl_nil ?_
   refine wc_ret ?_
   first
     | exact ⟨_, res1 rfl rfl, congrArg Value.bool (dec_f fun hh => hno hh.1).symm, H.pm (Pm.nil _)⟩
     | exact ⟨_, res1 rfl rfl, congrArg Value.bool (dec_f fun hh => by have h_ := hh.2.1 i (by omega); omega).symm, H.pm (Pm.nil _)⟩
     | exact ⟨_, res1 rfl rfl, congrArg Value.bool (dec_iff ⟨fun hh => ⟨hyes, fun j hj => ha j (by omega), hh.1, by omega⟩, fun hh => ⟨hh.2.2.1, by have h_ := hh.2.2.2; omega⟩⟩), H.pm (Pm.nil _)⟩
  have hyes : (0 ≤ p.left ∧ p.left < g.rules.length) ∧ p.right.length ≤ 64 ∧ 0 ≤ p.level := by (have h_ := of_ndec (hbad.symm.trans c0); omega)
  refine wc_skip ?_
  refine wc_seq ?_
  refine wcR ?_
  refine wV (v_fb (o2 := 1) fa73_1 rfl rfl) ?_
  refine wV (v_load one51 rfl (H.at (by repeat constructor) rfl)) ?_
  refine wV (v_len Try.underlying51 rfl) ?_
  refine wM ?_
  refine wl_nil ?_
  refine wc_block ?_
  refine wc_loop (σ := Nat) (fun s => [(2, .pointer (some ⟨b2, 0, none⟩)), (3, .pointer (some ⟨b3, 0, none⟩)), (31, .slice R p.right.length c), (32, .int .i64 p.right.length), (33, .int .i64 s)]) (fun s W => s ≤ p.right.length ∧ (∀ j, j < s → 1 ≤ p.right.getD j 0 ∧ p.right.getD j 0 < g.kinds.length + g.rules.length) ∧ Holds w [Blk b3 73 [.int .i64 p.left, .slice R p.right.length c, .int .i64 p.level, .int .i64 p.act.x.kind, .int .i64 p.act.x.at_, .string p.act.x.name, .slice B p.act.kids.length k], Blk b2 44 [.slice a.k g.kinds.length a.ck, .slice a.p g.precs.length a.cp, .slice a.r g.rules.length a.cr, .slice a.q g.prods.length a.cq, .int .i64 g.start]] W) (fun s => p.right.length - s) 0 (sc rfl (sc rfl (sc rfl (sc rfl (sc rfl (sn _)))))) ⟨Nat.zero_le _, upto_zero, H⟩ ?_
  rintro i W0 ⟨hi, ha, H⟩
  refine wcR ?_
  refine wV (v_lss rfl rfl) ?_
  refine wl_nil ?_
  refine wc_seq ?_
  refine wc_cond rfl (fun c1 => ?_) (fun c1 => ?_)
  rotate_left
  ·have c1p := oF c1
   refine wc_exit ?_
   refine wcR ?_
   refine wl_alloc (cs := [.int .i64 0]) H rfl zv3 rfl ?_
   intro b7 w5 hb7 H6
   refine wl_store (vs := [_]) H6 (by repeat constructor) sz3 rfl rfl rfl rfl rfl (by (repeat constructor)) ?_
   intro w7 H8 hw7
   refine wl_nil ?_
   refine wcR ?_
   refine wV (v_fb (o2 := 3) fa73_3 rfl rfl) ?_
   refine wV (v_loadN (cs := [_, _, _, _]) agg69 rfl rfl (H8.atsN (k := 4) (by repeat constructor) rfl)) ?_
   refine wV (v_fb (o2 := 1) fa73_1 rfl rfl) ?_
   refine wV (v_load one51 rfl (H8.at (by repeat constructor) rfl)) ?_
   refine wV (v_len Try.underlying51 rfl) ?_
   refine wl_call en83 rfl rfl (parts_calls p.act w _ _ B b7 k 0 p.right.length hl.2 hB (by omega) H8) ?_
   rintro _ w9 ⟨m, rfl, _, Hc⟩
   have H10 := Hc
   refine wA ?_
   refine wl_nil ?_
   refine wc_ret ?_
   first
     | exact ⟨_, res1 rfl rfl, congrArg Value.bool (dec_f fun hh => hno hh.1).symm, H10.pm (Pm.nil _)⟩
     | exact ⟨_, res1 rfl rfl, congrArg Value.bool (dec_f fun hh => by have h_ := hh.2.1 i (by omega); omega).symm, H10.pm (Pm.nil _)⟩
     | exact ⟨_, res1 rfl rfl, congrArg Value.bool (dec_iff ⟨fun hh => ⟨hyes, fun j hj => ha j (by omega), hh.1, by omega⟩, fun hh => ⟨hh.2.2.1, by have h_ := hh.2.2.2; omega⟩⟩), H10.pm (Pm.nil _)⟩
  have c1p := oT c1
  refine wc_skip ?_
  refine wc_seq ?_
  refine wc_block ?_
  refine wcR ?_
  refine wV (v_idx Try.underlying51 sz3 hR.ad rfl rfl (by omega) (by omega)) ?_
  refine wV (v_load one3 rfl (H.cell (hR.at1N (i := i) (by omega)))) ?_
  refine wA ?_
  refine wl_nil ?_
  refine wcR ?_
  refine wM ?_
  refine wV (v_lss rfl rfl) ?_
  refine wM ?_
  refine wl_guard rfl rfl rfl (fun g39 => ?_) (fun g39 => ?_)
  rotate_left
  ·have g39p := oT g39
   refine wF g39 ?_
   refine wF g39 ?_
   refine wF g39 ?_
   refine wF g39 ?_
   refine wF g39 ?_
   refine wF g39 ?_
   refine wF g39 ?_
   refine wF g39 ?_
   refine wV (v_pick_t rfl g39 rfl) ?_
   refine wl_nil ?_
   refine wc_cond_t rfl ?_
   refine wcR ?_
   refine wA ?_
   refine wl_nil ?_
   refine wc_ret ?_
   first
     | exact ⟨_, res1 rfl rfl, congrArg Value.bool (dec_f fun hh => hno hh.1).symm, H.pm (Pm.nil _)⟩
     | exact ⟨_, res1 rfl rfl, congrArg Value.bool (dec_f fun hh => by have h_ := hh.2.1 i (by omega); omega).symm, H.pm (Pm.nil _)⟩
     | exact ⟨_, res1 rfl rfl, congrArg Value.bool (dec_iff ⟨fun hh => ⟨hyes, fun j hj => ha j (by omega), hh.1, by omega⟩, fun hh => ⟨hh.2.2.1, by have h_ := hh.2.2.2; omega⟩⟩), H.pm (Pm.nil _)⟩
  have g39p := oF g39
  refine wM ?_
  refine wO g39 ?_
  refine wV (v_fb (o2 := 0) fa44_0 rfl rfl) ?_
  refine wO g39 ?_
  refine wV (v_load one40 rfl (H.at (by repeat constructor) rfl)) ?_
  refine wO g39 ?_
  refine wV (v_len Try.underlying40 rfl) ?_
  refine wO g39 ?_
  refine wV (v_fb (o2 := 2) fa44_2 rfl rfl) ?_
  refine wO g39 ?_
  refine wV (v_load one40 rfl (H.at (by repeat constructor) rfl)) ?_
  refine wO g39 ?_
  refine wV (v_len Try.underlying40 rfl) ?_
  refine wO g39 ?_
  refine wV (v_addi rfl rfl (by omega)) ?_
  refine wO g39 ?_
  refine wV (v_geq rfl rfl) ?_
  refine wV (v_pick_f rfl g39 rfl) ?_
  refine wl_nil ?_
  refine wc_cond rfl (fun c2 => ?_) (fun c2 => ?_)
  rotate_left
  ·have c2p := oF c2
   refine wc_skip ?_
   refine wc_region ?_
   refine wV (v_addi rfl rfl (by omega)) ?_
   refine wM ?_
   refine wl_nil ?_
   exact ⟨i + 1, (sc rfl (sc rfl (sc rfl (sc rfl (sc rfl (sn _)))))), ⟨by omega, upto_succ ha (by omega), H⟩, by omega⟩
  have c2p := oT c2
  refine wcR ?_
  refine wA ?_
  refine wl_nil ?_
  refine wc_ret ?_
  first
    | exact ⟨_, res1 rfl rfl, congrArg Value.bool (dec_f fun hh => hno hh.1).symm, H.pm (Pm.nil _)⟩
    | exact ⟨_, res1 rfl rfl, congrArg Value.bool (dec_f fun hh => by have h_ := hh.2.1 i (by omega); omega).symm, H.pm (Pm.nil _)⟩
    | exact ⟨_, res1 rfl rfl, congrArg Value.bool (dec_iff ⟨fun hh => ⟨hyes, fun j hj => ha j (by omega), hh.1, by omega⟩, fun hh => ⟨hh.2.2.1, by have h_ := hh.2.2.2; omega⟩⟩), H.pm (Pm.nil _)⟩

theorem okStep {E : Prop} {p : Nat → Prop} {i : Nat} {ok v : Bool} (h : ok = dec (E ∧ ∀ j, j < i → p j)) (hv : v = true ↔ ok = true ∧ p i) : v = dec (E ∧ ∀ j, j < i + 1 → p j) :=
  dec_eq (hv.trans ⟨fun hh => by have h1 := of_dec (h.symm.trans hh.1); exact ⟨h1.1, upto_succ h1.2 hh.2⟩, fun hh => ⟨h.trans (dec_t ⟨hh.1, fun j hj => hh.2 j (by omega)⟩), hh.2 i (by omega)⟩⟩)
theorem okStart {E : Prop} {p : Nat → Prop} {ok : Bool} (h : ok = dec E) : ok = dec (E ∧ ∀ j, j < 0 → p j) := h.trans (dec_iff ⟨fun hh => ⟨hh, upto_zero⟩, fun hh => hh.1⟩)
theorem okFin {E F : Prop} {p : Nat → Prop} {i n : Nat} {ok : Bool} (h : ok = dec (E ∧ ∀ j, j < i → p j)) (hi : ¬ ((i : Int) < n)) (hle : i ≤ n) (hF : F ↔ ∀ j, j < n → p j) : ok = dec (E ∧ F) := by
  have : i = n := by omega
  subst this
  exact h.trans (dec_iff ⟨fun hh => ⟨hh.1, hF.2 hh.2⟩, fun hh => ⟨hh.1, hF.1 hh.2⟩⟩)
theorem mvz (m : Mv) : decide (m = ⟨0, 0⟩) = decide (m.d = 0 ∧ m.n = 0) := decide_eq_decide.2 ⟨fun h => by rw [h]; exact ⟨rfl, rfl⟩, fun h => by
  cases m
  obtain ⟨rfl, rfl⟩ := h
  rfl⟩
theorem kE0 {p : Prop} (h : (if dec p then (0 : Int) else 70) = 0) : p := by
  rcases Classical.em p with hp | hp
  · exact hp
  · rw [dec_f hp] at h
    simp at h
def E0 (g : Pl) : Prop := KindsOk g.kinds ∧ g.precs.length = g.kinds.length
def E1 (g : Pl) : Prop := (E0 g ∧ PrecsOk g.precs) ∧ (1 ≤ g.rules.length ∧ g.rules.length ≤ 2048) ∧ (0 ≤ g.start ∧ g.start < g.rules.length) ∧ g.prods.length ≤ 4096
def ruleOk (g : Pl) (i : Nat) : Prop := (1 ≤ (g.rules.getD i ByteArray.empty).size ∧ (g.rules.getD i ByteArray.empty).size ≤ 4096) ∧ Dist g.rules i
theorem gok_iff (g : Pl) : GOk g ↔ (E1 g ∧ ∀ i, i < g.rules.length → ruleOk g i) ∧ ∀ i, i < g.prods.length → PrOk g (g.prods.getD i pr0) :=
  ⟨fun ⟨⟨h1, h2, h3, h4, h5⟩, ⟨h6, h7⟩, h8⟩ => ⟨⟨⟨⟨⟨h1, h2⟩, h3⟩, h4, h6, h7⟩, h5⟩, h8⟩, fun ⟨⟨⟨⟨⟨h1, h2⟩, h3⟩, h4, h6, h7⟩, h5⟩, h8⟩ => ⟨⟨h1, h2, h3, h4, h5⟩, ⟨h6, h7⟩, h8⟩⟩

set_option maxHeartbeats 6400000 in
set_option maxRecDepth 100000 in
theorem gcheck_calls {g : Pl} {a : PlA} {w : World} (hr : g.rd w a) (hg : g.ok) :
    Calls Try.prog 34 #[.agg #[.slice a.k g.kinds.length a.ck, .slice a.p g.precs.length a.cp, .slice a.r g.rules.length a.cr, .slice a.q g.prods.length a.cq, .int .i64 g.start]] w fun e w' => ∃ v, e = .returned v ∧ v = .int .i64 (checkG g) ∧ Holds w [] w' := by
  have hgk := hg.k
  have hgr := hg.r
  have hgp := hg.p
  have hgq := hg.q
  refine calls_of Try.func34 rfl Try.ntmps34 rfl ?_
  have H := Holds.start w
  refine wcR ?_
  refine wl_box (cs := [_, _, _, _, _]) H rfl rfl rfl ?_
  intro b1 w1 hb1 H2
  refine wA ?_
  refine wl_nil ?_
  refine wc_cut (σ := Bool) (fun q => [(1, .pointer (some ⟨b1, 0, none⟩)), (3, .bool q)]) (fun q W => q = dec (E0 g) ∧ Holds w [Blk b1 44 [.slice a.k g.kinds.length a.ck, .slice a.p g.precs.length a.cp, .slice a.r g.rules.length a.cr, .slice a.q g.prods.length a.cq, .int .i64 g.start]] W) ?_ ?_
  ·refine wc_region ?_
   refine wV (v_fb (o2 := 0) fa44_0 rfl rfl) ?_
   refine wV (v_load one40 rfl (H2.at (by repeat constructor) rfl)) ?_
   refine wl_call en60 rfl rfl (kinds_calls (hr.k.below H2.old) hg.k hg.ks) ?_
   rintro _ w3 ⟨rfl, Hc⟩
   have H4 := H2.call0 Hc
   refine wV (v_eql rfl rfl) ?_
   refine wM ?_
   refine wl_guard rfl rfl rfl (fun g17 => ?_) (fun g17 => ?_)
   rotate_left
   ·have g17p := oF g17
    refine wF g17 ?_
    refine wF g17 ?_
    refine wF g17 ?_
    refine wF g17 ?_
    refine wF g17 ?_
    refine wF g17 ?_
    refine wV (v_pick_f rfl g17 rfl) ?_
    refine wA ?_
    refine wl_nil ?_
    first
      | exact ⟨_, (sc rfl (sc rfl (sn _))), ⟨dec_eq ⟨fun hd => ⟨kE0 g17p, by (have h_ := oT hd; omega)⟩, fun hh => decide_eq_true (by have h_ := hh.2; omega)⟩, H4⟩⟩
      | exact ⟨_, (sc rfl (sc rfl (sn _))), ⟨(dec_f fun hh => g17p (by rw [dec_t hh.1]; rfl)).symm, H4⟩⟩
   have g17p := oT g17
   refine wV (v_fb (o2 := 1) fa44_1 rfl rfl) ?_
   refine wO g17 ?_
   refine wV (v_load one41 rfl (H4.at (by repeat constructor) rfl)) ?_
   refine wO g17 ?_
   refine wV (v_len Try.underlying41 rfl) ?_
   refine wO g17 ?_
   refine wV (v_fb (o2 := 0) fa44_0 rfl rfl) ?_
   refine wO g17 ?_
   refine wV (v_load one40 rfl (H4.at (by repeat constructor) rfl)) ?_
   refine wO g17 ?_
   refine wV (v_len Try.underlying40 rfl) ?_
   refine wO g17 ?_
   refine wV (v_eql rfl rfl) ?_
   refine wV (v_pick_t rfl g17 rfl) ?_
   refine wA ?_
   refine wl_nil ?_
   first
     | exact ⟨_, (sc rfl (sc rfl (sn _))), ⟨dec_eq ⟨fun hd => ⟨kE0 g17p, by (have h_ := oT hd; omega)⟩, fun hh => decide_eq_true (by have h_ := hh.2; omega)⟩, H4⟩⟩
     | exact ⟨_, (sc rfl (sc rfl (sn _))), ⟨(dec_f fun hh => g17p (by rw [dec_t hh.1]; rfl)).symm, H4⟩⟩
  rintro ok Wm ⟨hok, H⟩
  refine wc_seq ?_
  refine wcR ?_
  refine wV (v_fb (o2 := 1) fa44_1 rfl rfl) ?_
  refine wV (v_load one41 rfl (H.at (by repeat constructor) rfl)) ?_
  refine wV (v_len Try.underlying41 rfl) ?_
  refine wM ?_
  refine wl_nil ?_
  refine wc_block ?_
  refine wc_loop (σ := Nat × Bool) (fun s => [(1, .pointer (some ⟨b1, 0, none⟩)), (3, .bool s.2), (27, .slice a.p g.precs.length a.cp), (28, .int .i64 g.precs.length), (29, .int .i64 s.1)]) (fun s W => s.1 ≤ g.precs.length ∧ s.2 = dec (E0 g ∧ ∀ j, j < s.1 → precOk j (g.precs.getD j mv0)) ∧ Holds w [Blk b1 44 [.slice a.k g.kinds.length a.ck, .slice a.p g.precs.length a.cp, .slice a.r g.rules.length a.cr, .slice a.q g.prods.length a.cq, .int .i64 g.start]] W) (fun s => g.precs.length - s.1) (0, ok) (sc rfl (sc rfl (sc rfl (sc rfl (sc rfl (sn _)))))) ⟨Nat.zero_le _, okStart hok, H⟩ ?_
  rintro ⟨i, ok⟩ W0 ⟨hi, hok, H⟩
  dsimp only at hi hok H ⊢
  refine wcR ?_
  refine wV (v_lss rfl rfl) ?_
  refine wl_nil ?_
  refine wc_seq ?_
  refine wc_cond rfl (fun c0 => ?_) (fun c0 => ?_)
  ·have c0p := oT c0
   refine wc_skip ?_
   refine wc_seq ?_
   refine wc_block ?_
   refine wcR ?_
   refine wM ?_
   refine wV (v_idx Try.underlying41 sz145 hr.p.ad rfl rfl (by omega) (by omega)) ?_
   refine wV (v_loadN (cs := fMv.enc _) agg145 rfl rfl (fun k u hu => H.cell (hr.p.atN (i := i) (k := k) mv0 (by omega) hu))) ?_
   refine wl_alloc (cs := [.int .i64 0, .int .i64 0]) H rfl zv145 rfl ?_
   intro b5 w5 hb5 H6
   refine wA ?_
   refine wl_store (vs := [_, _]) H6 (by repeat constructor) sz145 rfl rfl rfl rfl rfl (by (repeat constructor)) ?_
   intro w7 H8 hw7
   refine wl_nil ?_
   refine wcR ?_
   refine wV (v_loadN agg145 rfl rfl (H8.ats (by repeat constructor))) ?_
   refine wV (v_bld ba145 rfl (by repeat constructor)) ?_
   refine wV (v_eqlm (a := (g.precs.getD i mv0)) (b := ⟨0, 0⟩) eqm145 rfl rfl) ?_
   rw [mvz]
   refine wA ?_
   refine wl_nil ?_
   refine wcR ?_
   refine wV (v_fb (o2 := 0) fa145_0 rfl rfl) ?_
   refine wV (v_load one3 rfl (H8.at (by repeat constructor) rfl)) ?_
   refine wV (v_geq rfl rfl) ?_
   refine wM ?_
   refine wl_guard rfl rfl rfl (fun g40 => ?_) (fun g40 => ?_)
   rotate_left
   ·have g40p := oF g40
    refine wF g40 ?_
    refine wF g40 ?_
    refine wV (v_pick_f rfl g40 rfl) ?_
    refine wM ?_
    refine wF rfl ?_
    refine wF rfl ?_
    refine wF rfl ?_
    refine wV (v_pick_f rfl rfl rfl) ?_
    refine wM ?_
    refine wF rfl ?_
    refine wF rfl ?_
    refine wV (v_pick_f rfl rfl rfl) ?_
    refine wA ?_
    refine wl_nil ?_
    refine wc_region ?_
    refine wM ?_
    refine wM ?_
    refine wl_guard rfl rfl rfl (fun g55 => ?_) (fun g55 => ?_)
    rotate_left
    ·refine wF g55 ?_
     refine wl_offu rfl rfl rfl ?_
     refine wF g55 ?_
     refine wV (v_pick_f rfl g55 rfl) ?_
     refine wA ?_
     refine wl_nil ?_
     refine wc_region ?_
     refine wV (v_addi rfl rfl (by omega)) ?_
     refine wM ?_
     refine wl_nil ?_
     first
       | exact ⟨(i + 1, _), (sc rfl (sc rfl (sc rfl (sc rfl (sc rfl (sn _)))))), ⟨by dsimp only; omega, okStep hok ⟨fun _ => ⟨g55, .inl g57p⟩, fun _ => rfl⟩, H8.pm (by repeat constructor)⟩, by dsimp only; omega⟩
       | exact ⟨(i + 1, _), (sc rfl (sc rfl (sc rfl (sc rfl (sc rfl (sn _)))))), ⟨by dsimp only; omega, okStep hok ⟨fun hd => absurd hd Bool.noConfusion, fun hh => absurd (hh.1.symm.trans g55) Bool.noConfusion⟩, H8.pm (by repeat constructor)⟩, by dsimp only; omega⟩
       | exact ⟨(i + 1, _), (sc rfl (sc rfl (sc rfl (sc rfl (sc rfl (sn _)))))), ⟨by dsimp only; omega, okStep hok ⟨fun hd => ⟨g55, by (have h_ := oT hd; unfold precOk; omega)⟩, fun hh => decide_eq_true (by have h_ := hh.2; unfold precOk at h_; omega)⟩, H8.pm (by repeat constructor)⟩, by dsimp only; omega⟩
       | exact ⟨(i + 1, _), (sc rfl (sc rfl (sc rfl (sc rfl (sc rfl (sn _)))))), ⟨by dsimp only; omega, okStep hok ⟨fun hd => absurd hd Bool.noConfusion, fun hh => absurd hh.2 (by unfold precOk; omega)⟩, H8.pm (by repeat constructor)⟩, by dsimp only; omega⟩
    refine wM ?_
    refine wO g55 ?_
    refine wM ?_
    refine wl_guard rfl rfl rfl (fun g57 => ?_) (fun g57 => ?_)
    rotate_left
    ·have g57p := oT g57
     refine wO g55 ?_
     refine wV (v_pick_t rfl g57 rfl) ?_
     refine wV (v_pick_t rfl g55 rfl) ?_
     refine wA ?_
     refine wl_nil ?_
     refine wc_region ?_
     refine wV (v_addi rfl rfl (by omega)) ?_
     refine wM ?_
     refine wl_nil ?_
     first
       | exact ⟨(i + 1, _), (sc rfl (sc rfl (sc rfl (sc rfl (sc rfl (sn _)))))), ⟨by dsimp only; omega, okStep hok ⟨fun _ => ⟨g55, .inl g57p⟩, fun _ => rfl⟩, H8.pm (by repeat constructor)⟩, by dsimp only; omega⟩
       | exact ⟨(i + 1, _), (sc rfl (sc rfl (sc rfl (sc rfl (sc rfl (sn _)))))), ⟨by dsimp only; omega, okStep hok ⟨fun hd => absurd hd Bool.noConfusion, fun hh => absurd (hh.1.symm.trans g55) Bool.noConfusion⟩, H8.pm (by repeat constructor)⟩, by dsimp only; omega⟩
       | exact ⟨(i + 1, _), (sc rfl (sc rfl (sc rfl (sc rfl (sc rfl (sn _)))))), ⟨by dsimp only; omega, okStep hok ⟨fun hd => ⟨g55, by (have h_ := oT hd; unfold precOk; omega)⟩, fun hh => decide_eq_true (by have h_ := hh.2; unfold precOk at h_; omega)⟩, H8.pm (by repeat constructor)⟩, by dsimp only; omega⟩
       | exact ⟨(i + 1, _), (sc rfl (sc rfl (sc rfl (sc rfl (sc rfl (sn _)))))), ⟨by dsimp only; omega, okStep hok ⟨fun hd => absurd hd Bool.noConfusion, fun hh => absurd hh.2 (by unfold precOk; omega)⟩, H8.pm (by repeat constructor)⟩, by dsimp only; omega⟩
    have g57p := oF g57
    refine wM ?_
    refine wO g55 ?_
    refine wV (v_pick_f rfl g57 rfl) ?_
    refine wV (v_pick_t rfl g55 rfl) ?_
    refine wA ?_
    refine wl_nil ?_
    refine wc_region ?_
    refine wV (v_addi rfl rfl (by omega)) ?_
    refine wM ?_
    refine wl_nil ?_
    first
      | exact ⟨(i + 1, _), (sc rfl (sc rfl (sc rfl (sc rfl (sc rfl (sn _)))))), ⟨by dsimp only; omega, okStep hok ⟨fun _ => ⟨g55, .inl g57p⟩, fun _ => rfl⟩, H8.pm (by repeat constructor)⟩, by dsimp only; omega⟩
      | exact ⟨(i + 1, _), (sc rfl (sc rfl (sc rfl (sc rfl (sc rfl (sn _)))))), ⟨by dsimp only; omega, okStep hok ⟨fun hd => absurd hd Bool.noConfusion, fun hh => absurd (hh.1.symm.trans g55) Bool.noConfusion⟩, H8.pm (by repeat constructor)⟩, by dsimp only; omega⟩
      | exact ⟨(i + 1, _), (sc rfl (sc rfl (sc rfl (sc rfl (sc rfl (sn _)))))), ⟨by dsimp only; omega, okStep hok ⟨fun hd => ⟨g55, by (have h_ := oT hd; unfold precOk; omega)⟩, fun hh => decide_eq_true (by have h_ := hh.2; unfold precOk at h_; omega)⟩, H8.pm (by repeat constructor)⟩, by dsimp only; omega⟩
      | exact ⟨(i + 1, _), (sc rfl (sc rfl (sc rfl (sc rfl (sc rfl (sn _)))))), ⟨by dsimp only; omega, okStep hok ⟨fun hd => absurd hd Bool.noConfusion, fun hh => absurd hh.2 (by unfold precOk; omega)⟩, H8.pm (by repeat constructor)⟩, by dsimp only; omega⟩
   have g40p := oT g40
   refine wV (v_fb (o2 := 1) fa145_1 rfl rfl) ?_
   refine wO g40 ?_
   refine wV (v_load one3 rfl (H8.at (by repeat constructor) rfl)) ?_
   refine wO g40 ?_
   refine wV (v_geq rfl rfl) ?_
   refine wV (v_pick_t rfl g40 rfl) ?_
   refine wM ?_
   refine wl_guard rfl rfl rfl (fun g45 => ?_) (fun g45 => ?_)
   rotate_left
   ·have g45p := oF g45
    refine wF g45 ?_
    refine wF g45 ?_
    refine wV (v_pick_f rfl g45 rfl) ?_
    refine wM ?_
    refine wF rfl ?_
    refine wF rfl ?_
    refine wV (v_pick_f rfl rfl rfl) ?_
    refine wA ?_
    refine wl_nil ?_
    refine wc_region ?_
    refine wM ?_
    refine wM ?_
    refine wl_guard rfl rfl rfl (fun g55 => ?_) (fun g55 => ?_)
    rotate_left
    ·refine wF g55 ?_
     refine wl_offu rfl rfl rfl ?_
     refine wF g55 ?_
     refine wV (v_pick_f rfl g55 rfl) ?_
     refine wA ?_
     refine wl_nil ?_
     refine wc_region ?_
     refine wV (v_addi rfl rfl (by omega)) ?_
     refine wM ?_
     refine wl_nil ?_
     first
       | exact ⟨(i + 1, _), (sc rfl (sc rfl (sc rfl (sc rfl (sc rfl (sn _)))))), ⟨by dsimp only; omega, okStep hok ⟨fun _ => ⟨g55, .inl g57p⟩, fun _ => rfl⟩, H8.pm (by repeat constructor)⟩, by dsimp only; omega⟩
       | exact ⟨(i + 1, _), (sc rfl (sc rfl (sc rfl (sc rfl (sc rfl (sn _)))))), ⟨by dsimp only; omega, okStep hok ⟨fun hd => absurd hd Bool.noConfusion, fun hh => absurd (hh.1.symm.trans g55) Bool.noConfusion⟩, H8.pm (by repeat constructor)⟩, by dsimp only; omega⟩
       | exact ⟨(i + 1, _), (sc rfl (sc rfl (sc rfl (sc rfl (sc rfl (sn _)))))), ⟨by dsimp only; omega, okStep hok ⟨fun hd => ⟨g55, by (have h_ := oT hd; unfold precOk; omega)⟩, fun hh => decide_eq_true (by have h_ := hh.2; unfold precOk at h_; omega)⟩, H8.pm (by repeat constructor)⟩, by dsimp only; omega⟩
       | exact ⟨(i + 1, _), (sc rfl (sc rfl (sc rfl (sc rfl (sc rfl (sn _)))))), ⟨by dsimp only; omega, okStep hok ⟨fun hd => absurd hd Bool.noConfusion, fun hh => absurd hh.2 (by unfold precOk; omega)⟩, H8.pm (by repeat constructor)⟩, by dsimp only; omega⟩
    refine wM ?_
    refine wO g55 ?_
    refine wM ?_
    refine wl_guard rfl rfl rfl (fun g57 => ?_) (fun g57 => ?_)
    rotate_left
    ·have g57p := oT g57
     refine wO g55 ?_
     refine wV (v_pick_t rfl g57 rfl) ?_
     refine wV (v_pick_t rfl g55 rfl) ?_
     refine wA ?_
     refine wl_nil ?_
     refine wc_region ?_
     refine wV (v_addi rfl rfl (by omega)) ?_
     refine wM ?_
     refine wl_nil ?_
     first
       | exact ⟨(i + 1, _), (sc rfl (sc rfl (sc rfl (sc rfl (sc rfl (sn _)))))), ⟨by dsimp only; omega, okStep hok ⟨fun _ => ⟨g55, .inl g57p⟩, fun _ => rfl⟩, H8.pm (by repeat constructor)⟩, by dsimp only; omega⟩
       | exact ⟨(i + 1, _), (sc rfl (sc rfl (sc rfl (sc rfl (sc rfl (sn _)))))), ⟨by dsimp only; omega, okStep hok ⟨fun hd => absurd hd Bool.noConfusion, fun hh => absurd (hh.1.symm.trans g55) Bool.noConfusion⟩, H8.pm (by repeat constructor)⟩, by dsimp only; omega⟩
       | exact ⟨(i + 1, _), (sc rfl (sc rfl (sc rfl (sc rfl (sc rfl (sn _)))))), ⟨by dsimp only; omega, okStep hok ⟨fun hd => ⟨g55, by (have h_ := oT hd; unfold precOk; omega)⟩, fun hh => decide_eq_true (by have h_ := hh.2; unfold precOk at h_; omega)⟩, H8.pm (by repeat constructor)⟩, by dsimp only; omega⟩
       | exact ⟨(i + 1, _), (sc rfl (sc rfl (sc rfl (sc rfl (sc rfl (sn _)))))), ⟨by dsimp only; omega, okStep hok ⟨fun hd => absurd hd Bool.noConfusion, fun hh => absurd hh.2 (by unfold precOk; omega)⟩, H8.pm (by repeat constructor)⟩, by dsimp only; omega⟩
    have g57p := oF g57
    refine wM ?_
    refine wO g55 ?_
    refine wV (v_pick_f rfl g57 rfl) ?_
    refine wV (v_pick_t rfl g55 rfl) ?_
    refine wA ?_
    refine wl_nil ?_
    refine wc_region ?_
    refine wV (v_addi rfl rfl (by omega)) ?_
    refine wM ?_
    refine wl_nil ?_
    first
      | exact ⟨(i + 1, _), (sc rfl (sc rfl (sc rfl (sc rfl (sc rfl (sn _)))))), ⟨by dsimp only; omega, okStep hok ⟨fun _ => ⟨g55, .inl g57p⟩, fun _ => rfl⟩, H8.pm (by repeat constructor)⟩, by dsimp only; omega⟩
      | exact ⟨(i + 1, _), (sc rfl (sc rfl (sc rfl (sc rfl (sc rfl (sn _)))))), ⟨by dsimp only; omega, okStep hok ⟨fun hd => absurd hd Bool.noConfusion, fun hh => absurd (hh.1.symm.trans g55) Bool.noConfusion⟩, H8.pm (by repeat constructor)⟩, by dsimp only; omega⟩
      | exact ⟨(i + 1, _), (sc rfl (sc rfl (sc rfl (sc rfl (sc rfl (sn _)))))), ⟨by dsimp only; omega, okStep hok ⟨fun hd => ⟨g55, by (have h_ := oT hd; unfold precOk; omega)⟩, fun hh => decide_eq_true (by have h_ := hh.2; unfold precOk at h_; omega)⟩, H8.pm (by repeat constructor)⟩, by dsimp only; omega⟩
      | exact ⟨(i + 1, _), (sc rfl (sc rfl (sc rfl (sc rfl (sc rfl (sn _)))))), ⟨by dsimp only; omega, okStep hok ⟨fun hd => absurd hd Bool.noConfusion, fun hh => absurd hh.2 (by unfold precOk; omega)⟩, H8.pm (by repeat constructor)⟩, by dsimp only; omega⟩
   have g45p := oT g45
   refine wV (v_fb (o2 := 1) fa145_1 rfl rfl) ?_
   refine wO g45 ?_
   refine wV (v_load one3 rfl (H8.at (by repeat constructor) rfl)) ?_
   refine wO g45 ?_
   refine wV (v_leq rfl rfl) ?_
   refine wV (v_pick_t rfl g45 rfl) ?_
   refine wM ?_
   refine wl_guard rfl rfl rfl (fun g50 => ?_) (fun g50 => ?_)
   rotate_left
   ·have g50p := oF g50
    refine wF g50 ?_
    refine wV (v_pick_f rfl g50 rfl) ?_
    refine wA ?_
    refine wl_nil ?_
    refine wc_region ?_
    refine wM ?_
    refine wM ?_
    refine wl_guard rfl rfl rfl (fun g55 => ?_) (fun g55 => ?_)
    rotate_left
    ·refine wF g55 ?_
     refine wl_offu rfl rfl rfl ?_
     refine wF g55 ?_
     refine wV (v_pick_f rfl g55 rfl) ?_
     refine wA ?_
     refine wl_nil ?_
     refine wc_region ?_
     refine wV (v_addi rfl rfl (by omega)) ?_
     refine wM ?_
     refine wl_nil ?_
     first
       | exact ⟨(i + 1, _), (sc rfl (sc rfl (sc rfl (sc rfl (sc rfl (sn _)))))), ⟨by dsimp only; omega, okStep hok ⟨fun _ => ⟨g55, .inl g57p⟩, fun _ => rfl⟩, H8.pm (by repeat constructor)⟩, by dsimp only; omega⟩
       | exact ⟨(i + 1, _), (sc rfl (sc rfl (sc rfl (sc rfl (sc rfl (sn _)))))), ⟨by dsimp only; omega, okStep hok ⟨fun hd => absurd hd Bool.noConfusion, fun hh => absurd (hh.1.symm.trans g55) Bool.noConfusion⟩, H8.pm (by repeat constructor)⟩, by dsimp only; omega⟩
       | exact ⟨(i + 1, _), (sc rfl (sc rfl (sc rfl (sc rfl (sc rfl (sn _)))))), ⟨by dsimp only; omega, okStep hok ⟨fun hd => ⟨g55, by (have h_ := oT hd; unfold precOk; omega)⟩, fun hh => decide_eq_true (by have h_ := hh.2; unfold precOk at h_; omega)⟩, H8.pm (by repeat constructor)⟩, by dsimp only; omega⟩
       | exact ⟨(i + 1, _), (sc rfl (sc rfl (sc rfl (sc rfl (sc rfl (sn _)))))), ⟨by dsimp only; omega, okStep hok ⟨fun hd => absurd hd Bool.noConfusion, fun hh => absurd hh.2 (by unfold precOk; omega)⟩, H8.pm (by repeat constructor)⟩, by dsimp only; omega⟩
    refine wM ?_
    refine wO g55 ?_
    refine wM ?_
    refine wl_guard rfl rfl rfl (fun g57 => ?_) (fun g57 => ?_)
    rotate_left
    ·have g57p := oT g57
     refine wO g55 ?_
     refine wV (v_pick_t rfl g57 rfl) ?_
     refine wV (v_pick_t rfl g55 rfl) ?_
     refine wA ?_
     refine wl_nil ?_
     refine wc_region ?_
     refine wV (v_addi rfl rfl (by omega)) ?_
     refine wM ?_
     refine wl_nil ?_
     first
       | exact ⟨(i + 1, _), (sc rfl (sc rfl (sc rfl (sc rfl (sc rfl (sn _)))))), ⟨by dsimp only; omega, okStep hok ⟨fun _ => ⟨g55, .inl g57p⟩, fun _ => rfl⟩, H8.pm (by repeat constructor)⟩, by dsimp only; omega⟩
       | exact ⟨(i + 1, _), (sc rfl (sc rfl (sc rfl (sc rfl (sc rfl (sn _)))))), ⟨by dsimp only; omega, okStep hok ⟨fun hd => absurd hd Bool.noConfusion, fun hh => absurd (hh.1.symm.trans g55) Bool.noConfusion⟩, H8.pm (by repeat constructor)⟩, by dsimp only; omega⟩
       | exact ⟨(i + 1, _), (sc rfl (sc rfl (sc rfl (sc rfl (sc rfl (sn _)))))), ⟨by dsimp only; omega, okStep hok ⟨fun hd => ⟨g55, by (have h_ := oT hd; unfold precOk; omega)⟩, fun hh => decide_eq_true (by have h_ := hh.2; unfold precOk at h_; omega)⟩, H8.pm (by repeat constructor)⟩, by dsimp only; omega⟩
       | exact ⟨(i + 1, _), (sc rfl (sc rfl (sc rfl (sc rfl (sc rfl (sn _)))))), ⟨by dsimp only; omega, okStep hok ⟨fun hd => absurd hd Bool.noConfusion, fun hh => absurd hh.2 (by unfold precOk; omega)⟩, H8.pm (by repeat constructor)⟩, by dsimp only; omega⟩
    have g57p := oF g57
    refine wM ?_
    refine wO g55 ?_
    refine wV (v_pick_f rfl g57 rfl) ?_
    refine wV (v_pick_t rfl g55 rfl) ?_
    refine wA ?_
    refine wl_nil ?_
    refine wc_region ?_
    refine wV (v_addi rfl rfl (by omega)) ?_
    refine wM ?_
    refine wl_nil ?_
    first
      | exact ⟨(i + 1, _), (sc rfl (sc rfl (sc rfl (sc rfl (sc rfl (sn _)))))), ⟨by dsimp only; omega, okStep hok ⟨fun _ => ⟨g55, .inl g57p⟩, fun _ => rfl⟩, H8.pm (by repeat constructor)⟩, by dsimp only; omega⟩
      | exact ⟨(i + 1, _), (sc rfl (sc rfl (sc rfl (sc rfl (sc rfl (sn _)))))), ⟨by dsimp only; omega, okStep hok ⟨fun hd => absurd hd Bool.noConfusion, fun hh => absurd (hh.1.symm.trans g55) Bool.noConfusion⟩, H8.pm (by repeat constructor)⟩, by dsimp only; omega⟩
      | exact ⟨(i + 1, _), (sc rfl (sc rfl (sc rfl (sc rfl (sc rfl (sn _)))))), ⟨by dsimp only; omega, okStep hok ⟨fun hd => ⟨g55, by (have h_ := oT hd; unfold precOk; omega)⟩, fun hh => decide_eq_true (by have h_ := hh.2; unfold precOk at h_; omega)⟩, H8.pm (by repeat constructor)⟩, by dsimp only; omega⟩
      | exact ⟨(i + 1, _), (sc rfl (sc rfl (sc rfl (sc rfl (sc rfl (sn _)))))), ⟨by dsimp only; omega, okStep hok ⟨fun hd => absurd hd Bool.noConfusion, fun hh => absurd hh.2 (by unfold precOk; omega)⟩, H8.pm (by repeat constructor)⟩, by dsimp only; omega⟩
   have g50p := oT g50
   refine wM ?_
   refine wO g50 ?_
   refine wV (v_geq rfl rfl) ?_
   refine wV (v_pick_t rfl g50 rfl) ?_
   refine wA ?_
   refine wl_nil ?_
   refine wc_region ?_
   refine wM ?_
   refine wM ?_
   refine wl_guard rfl rfl rfl (fun g55 => ?_) (fun g55 => ?_)
   rotate_left
   ·refine wF g55 ?_
    refine wl_offu rfl rfl rfl ?_
    refine wF g55 ?_
    refine wV (v_pick_f rfl g55 rfl) ?_
    refine wA ?_
    refine wl_nil ?_
    refine wc_region ?_
    refine wV (v_addi rfl rfl (by omega)) ?_
    refine wM ?_
    refine wl_nil ?_
    first
      | exact ⟨(i + 1, _), (sc rfl (sc rfl (sc rfl (sc rfl (sc rfl (sn _)))))), ⟨by dsimp only; omega, okStep hok ⟨fun _ => ⟨g55, .inl g57p⟩, fun _ => rfl⟩, H8.pm (by repeat constructor)⟩, by dsimp only; omega⟩
      | exact ⟨(i + 1, _), (sc rfl (sc rfl (sc rfl (sc rfl (sc rfl (sn _)))))), ⟨by dsimp only; omega, okStep hok ⟨fun hd => absurd hd Bool.noConfusion, fun hh => absurd (hh.1.symm.trans g55) Bool.noConfusion⟩, H8.pm (by repeat constructor)⟩, by dsimp only; omega⟩
      | exact ⟨(i + 1, _), (sc rfl (sc rfl (sc rfl (sc rfl (sc rfl (sn _)))))), ⟨by dsimp only; omega, okStep hok ⟨fun hd => ⟨g55, by (have h_ := oT hd; unfold precOk; omega)⟩, fun hh => decide_eq_true (by have h_ := hh.2; unfold precOk at h_; omega)⟩, H8.pm (by repeat constructor)⟩, by dsimp only; omega⟩
      | exact ⟨(i + 1, _), (sc rfl (sc rfl (sc rfl (sc rfl (sc rfl (sn _)))))), ⟨by dsimp only; omega, okStep hok ⟨fun hd => absurd hd Bool.noConfusion, fun hh => absurd hh.2 (by unfold precOk; omega)⟩, H8.pm (by repeat constructor)⟩, by dsimp only; omega⟩
   refine wM ?_
   refine wO g55 ?_
   refine wM ?_
   refine wl_guard rfl rfl rfl (fun g57 => ?_) (fun g57 => ?_)
   rotate_left
   ·have g57p := oT g57
    refine wO g55 ?_
    refine wV (v_pick_t rfl g57 rfl) ?_
    refine wV (v_pick_t rfl g55 rfl) ?_
    refine wA ?_
    refine wl_nil ?_
    refine wc_region ?_
    refine wV (v_addi rfl rfl (by omega)) ?_
    refine wM ?_
    refine wl_nil ?_
    first
      | exact ⟨(i + 1, _), (sc rfl (sc rfl (sc rfl (sc rfl (sc rfl (sn _)))))), ⟨by dsimp only; omega, okStep hok ⟨fun _ => ⟨g55, .inl g57p⟩, fun _ => rfl⟩, H8.pm (by repeat constructor)⟩, by dsimp only; omega⟩
      | exact ⟨(i + 1, _), (sc rfl (sc rfl (sc rfl (sc rfl (sc rfl (sn _)))))), ⟨by dsimp only; omega, okStep hok ⟨fun hd => absurd hd Bool.noConfusion, fun hh => absurd (hh.1.symm.trans g55) Bool.noConfusion⟩, H8.pm (by repeat constructor)⟩, by dsimp only; omega⟩
      | exact ⟨(i + 1, _), (sc rfl (sc rfl (sc rfl (sc rfl (sc rfl (sn _)))))), ⟨by dsimp only; omega, okStep hok ⟨fun hd => ⟨g55, by (have h_ := oT hd; unfold precOk; omega)⟩, fun hh => decide_eq_true (by have h_ := hh.2; unfold precOk at h_; omega)⟩, H8.pm (by repeat constructor)⟩, by dsimp only; omega⟩
      | exact ⟨(i + 1, _), (sc rfl (sc rfl (sc rfl (sc rfl (sc rfl (sn _)))))), ⟨by dsimp only; omega, okStep hok ⟨fun hd => absurd hd Bool.noConfusion, fun hh => absurd hh.2 (by unfold precOk; omega)⟩, H8.pm (by repeat constructor)⟩, by dsimp only; omega⟩
   have g57p := oF g57
   refine wM ?_
   refine wO g55 ?_
   refine wV (v_pick_f rfl g57 rfl) ?_
   refine wV (v_pick_t rfl g55 rfl) ?_
   refine wA ?_
   refine wl_nil ?_
   refine wc_region ?_
   refine wV (v_addi rfl rfl (by omega)) ?_
   refine wM ?_
   refine wl_nil ?_
   first
     | exact ⟨(i + 1, _), (sc rfl (sc rfl (sc rfl (sc rfl (sc rfl (sn _)))))), ⟨by dsimp only; omega, okStep hok ⟨fun _ => ⟨g55, .inl g57p⟩, fun _ => rfl⟩, H8.pm (by repeat constructor)⟩, by dsimp only; omega⟩
     | exact ⟨(i + 1, _), (sc rfl (sc rfl (sc rfl (sc rfl (sc rfl (sn _)))))), ⟨by dsimp only; omega, okStep hok ⟨fun hd => absurd hd Bool.noConfusion, fun hh => absurd (hh.1.symm.trans g55) Bool.noConfusion⟩, H8.pm (by repeat constructor)⟩, by dsimp only; omega⟩
     | exact ⟨(i + 1, _), (sc rfl (sc rfl (sc rfl (sc rfl (sc rfl (sn _)))))), ⟨by dsimp only; omega, okStep hok ⟨fun hd => ⟨g55, by (have h_ := oT hd; unfold precOk; omega)⟩, fun hh => decide_eq_true (by have h_ := hh.2; unfold precOk at h_; omega)⟩, H8.pm (by repeat constructor)⟩, by dsimp only; omega⟩
     | exact ⟨(i + 1, _), (sc rfl (sc rfl (sc rfl (sc rfl (sc rfl (sn _)))))), ⟨by dsimp only; omega, okStep hok ⟨fun hd => absurd hd Bool.noConfusion, fun hh => absurd hh.2 (by unfold precOk; omega)⟩, H8.pm (by repeat constructor)⟩, by dsimp only; omega⟩
  have c0p := oF c0
  have hE := okFin (F := PrecsOk g.precs) hok c0p hi Iff.rfl
  refine wc_exit ?_
  refine wc_cut (σ := Bool) (fun q => [(1, .pointer (some ⟨b1, 0, none⟩)), (3, .bool q)]) (fun q W => q = dec (E1 g) ∧ Holds w [Blk b1 44 [.slice a.k g.kinds.length a.ck, .slice a.p g.precs.length a.cp, .slice a.r g.rules.length a.cr, .slice a.q g.prods.length a.cq, .int .i64 g.start]] W) ?_ ?_
  ·refine wc_region ?_
   refine wM ?_
   refine wM ?_
   refine wl_guard rfl rfl rfl (fun g63 => ?_) (fun g63 => ?_)
   rotate_left
   ·refine wF g63 ?_
    refine wF g63 ?_
    refine wF g63 ?_
    refine wV (v_pick_f rfl g63 rfl) ?_
    refine wM ?_
    refine wF rfl ?_
    refine wF rfl ?_
    refine wF rfl ?_
    refine wF rfl ?_
    refine wV (v_pick_f rfl rfl rfl) ?_
    refine wM ?_
    refine wF rfl ?_
    refine wF rfl ?_
    refine wF rfl ?_
    refine wV (v_pick_f rfl rfl rfl) ?_
    refine wM ?_
    refine wF rfl ?_
    refine wF rfl ?_
    refine wF rfl ?_
    refine wF rfl ?_
    refine wF rfl ?_
    refine wF rfl ?_
    refine wV (v_pick_f rfl rfl rfl) ?_
    refine wM ?_
    refine wF rfl ?_
    refine wF rfl ?_
    refine wF rfl ?_
    refine wF rfl ?_
    refine wV (v_pick_f rfl rfl rfl) ?_
    refine wA ?_
    refine wl_nil ?_
    first
      | exact ⟨_, (sc rfl (sc rfl (sn _))), ⟨dec_eq ⟨fun hd => ⟨of_dec (hE.symm.trans g63), by (have h_ := oT hd; omega)⟩, fun hh => decide_eq_true (by have h_ := hh.2; omega)⟩, H⟩⟩
      | exact ⟨_, (sc rfl (sc rfl (sn _))), ⟨(dec_f fun hh => of_ndec (hE.symm.trans g63) hh.1).symm, H⟩⟩
      | exact ⟨_, (sc rfl (sc rfl (sn _))), ⟨(dec_f fun hh => by have h_ := hh.2; omega).symm, H⟩⟩
   refine wV (v_fb (o2 := 2) fa44_2 rfl rfl) ?_
   refine wO g63 ?_
   refine wV (v_load one40 rfl (H.at (by repeat constructor) rfl)) ?_
   refine wO g63 ?_
   refine wV (v_len Try.underlying40 rfl) ?_
   refine wO g63 ?_
   refine wV (v_geq rfl rfl) ?_
   refine wV (v_pick_t rfl g63 rfl) ?_
   refine wM ?_
   refine wl_guard rfl rfl rfl (fun g69 => ?_) (fun g69 => ?_)
   rotate_left
   ·have g69p := oF g69
    refine wF g69 ?_
    refine wF g69 ?_
    refine wF g69 ?_
    refine wV (v_pick_f rfl g69 rfl) ?_
    refine wM ?_
    refine wF rfl ?_
    refine wF rfl ?_
    refine wF rfl ?_
    refine wV (v_pick_f rfl rfl rfl) ?_
    refine wM ?_
    refine wF rfl ?_
    refine wF rfl ?_
    refine wF rfl ?_
    refine wF rfl ?_
    refine wF rfl ?_
    refine wF rfl ?_
    refine wV (v_pick_f rfl rfl rfl) ?_
    refine wM ?_
    refine wF rfl ?_
    refine wF rfl ?_
    refine wF rfl ?_
    refine wF rfl ?_
    refine wV (v_pick_f rfl rfl rfl) ?_
    refine wA ?_
    refine wl_nil ?_
    first
      | exact ⟨_, (sc rfl (sc rfl (sn _))), ⟨dec_eq ⟨fun hd => ⟨of_dec (hE.symm.trans g63), by (have h_ := oT hd; omega)⟩, fun hh => decide_eq_true (by have h_ := hh.2; omega)⟩, H⟩⟩
      | exact ⟨_, (sc rfl (sc rfl (sn _))), ⟨(dec_f fun hh => of_ndec (hE.symm.trans g63) hh.1).symm, H⟩⟩
      | exact ⟨_, (sc rfl (sc rfl (sn _))), ⟨(dec_f fun hh => by have h_ := hh.2; omega).symm, H⟩⟩
   have g69p := oT g69
   refine wV (v_fb (o2 := 2) fa44_2 rfl rfl) ?_
   refine wO g69 ?_
   refine wV (v_load one40 rfl (H.at (by repeat constructor) rfl)) ?_
   refine wO g69 ?_
   refine wV (v_len Try.underlying40 rfl) ?_
   refine wO g69 ?_
   refine wV (v_leq rfl rfl) ?_
   refine wV (v_pick_t rfl g69 rfl) ?_
   refine wM ?_
   refine wl_guard rfl rfl rfl (fun g75 => ?_) (fun g75 => ?_)
   rotate_left
   ·have g75p := oF g75
    refine wF g75 ?_
    refine wF g75 ?_
    refine wV (v_pick_f rfl g75 rfl) ?_
    refine wM ?_
    refine wF rfl ?_
    refine wF rfl ?_
    refine wF rfl ?_
    refine wF rfl ?_
    refine wF rfl ?_
    refine wF rfl ?_
    refine wV (v_pick_f rfl rfl rfl) ?_
    refine wM ?_
    refine wF rfl ?_
    refine wF rfl ?_
    refine wF rfl ?_
    refine wF rfl ?_
    refine wV (v_pick_f rfl rfl rfl) ?_
    refine wA ?_
    refine wl_nil ?_
    first
      | exact ⟨_, (sc rfl (sc rfl (sn _))), ⟨dec_eq ⟨fun hd => ⟨of_dec (hE.symm.trans g63), by (have h_ := oT hd; omega)⟩, fun hh => decide_eq_true (by have h_ := hh.2; omega)⟩, H⟩⟩
      | exact ⟨_, (sc rfl (sc rfl (sn _))), ⟨(dec_f fun hh => of_ndec (hE.symm.trans g63) hh.1).symm, H⟩⟩
      | exact ⟨_, (sc rfl (sc rfl (sn _))), ⟨(dec_f fun hh => by have h_ := hh.2; omega).symm, H⟩⟩
   have g75p := oT g75
   refine wV (v_fb (o2 := 4) fa44_4 rfl rfl) ?_
   refine wO g75 ?_
   refine wV (v_load one3 rfl (H.at (by repeat constructor) rfl)) ?_
   refine wO g75 ?_
   refine wV (v_geq rfl rfl) ?_
   refine wV (v_pick_t rfl g75 rfl) ?_
   refine wM ?_
   refine wl_guard rfl rfl rfl (fun g80 => ?_) (fun g80 => ?_)
   rotate_left
   ·have g80p := oF g80
    refine wF g80 ?_
    refine wF g80 ?_
    refine wF g80 ?_
    refine wF g80 ?_
    refine wF g80 ?_
    refine wV (v_pick_f rfl g80 rfl) ?_
    refine wM ?_
    refine wF rfl ?_
    refine wF rfl ?_
    refine wF rfl ?_
    refine wF rfl ?_
    refine wV (v_pick_f rfl rfl rfl) ?_
    refine wA ?_
    refine wl_nil ?_
    first
      | exact ⟨_, (sc rfl (sc rfl (sn _))), ⟨dec_eq ⟨fun hd => ⟨of_dec (hE.symm.trans g63), by (have h_ := oT hd; omega)⟩, fun hh => decide_eq_true (by have h_ := hh.2; omega)⟩, H⟩⟩
      | exact ⟨_, (sc rfl (sc rfl (sn _))), ⟨(dec_f fun hh => of_ndec (hE.symm.trans g63) hh.1).symm, H⟩⟩
      | exact ⟨_, (sc rfl (sc rfl (sn _))), ⟨(dec_f fun hh => by have h_ := hh.2; omega).symm, H⟩⟩
   have g80p := oT g80
   refine wV (v_fb (o2 := 4) fa44_4 rfl rfl) ?_
   refine wO g80 ?_
   refine wV (v_load one3 rfl (H.at (by repeat constructor) rfl)) ?_
   refine wO g80 ?_
   refine wV (v_fb (o2 := 2) fa44_2 rfl rfl) ?_
   refine wO g80 ?_
   refine wV (v_load one40 rfl (H.at (by repeat constructor) rfl)) ?_
   refine wO g80 ?_
   refine wV (v_len Try.underlying40 rfl) ?_
   refine wO g80 ?_
   refine wV (v_lss rfl rfl) ?_
   refine wV (v_pick_t rfl g80 rfl) ?_
   refine wM ?_
   refine wl_guard rfl rfl rfl (fun g88 => ?_) (fun g88 => ?_)
   rotate_left
   ·have g88p := oF g88
    refine wF g88 ?_
    refine wF g88 ?_
    refine wF g88 ?_
    refine wV (v_pick_f rfl g88 rfl) ?_
    refine wA ?_
    refine wl_nil ?_
    first
      | exact ⟨_, (sc rfl (sc rfl (sn _))), ⟨dec_eq ⟨fun hd => ⟨of_dec (hE.symm.trans g63), by (have h_ := oT hd; omega)⟩, fun hh => decide_eq_true (by have h_ := hh.2; omega)⟩, H⟩⟩
      | exact ⟨_, (sc rfl (sc rfl (sn _))), ⟨(dec_f fun hh => of_ndec (hE.symm.trans g63) hh.1).symm, H⟩⟩
      | exact ⟨_, (sc rfl (sc rfl (sn _))), ⟨(dec_f fun hh => by have h_ := hh.2; omega).symm, H⟩⟩
   have g88p := oT g88
   refine wV (v_fb (o2 := 3) fa44_3 rfl rfl) ?_
   refine wO g88 ?_
   refine wV (v_load one42 rfl (H.at (by repeat constructor) rfl)) ?_
   refine wO g88 ?_
   refine wV (v_len Try.underlying42 rfl) ?_
   refine wO g88 ?_
   refine wV (v_leq rfl rfl) ?_
   refine wV (v_pick_t rfl g88 rfl) ?_
   refine wA ?_
   refine wl_nil ?_
   first
     | exact ⟨_, (sc rfl (sc rfl (sn _))), ⟨dec_eq ⟨fun hd => ⟨of_dec (hE.symm.trans g63), by (have h_ := oT hd; omega)⟩, fun hh => decide_eq_true (by have h_ := hh.2; omega)⟩, H⟩⟩
     | exact ⟨_, (sc rfl (sc rfl (sn _))), ⟨(dec_f fun hh => of_ndec (hE.symm.trans g63) hh.1).symm, H⟩⟩
     | exact ⟨_, (sc rfl (sc rfl (sn _))), ⟨(dec_f fun hh => by have h_ := hh.2; omega).symm, H⟩⟩
  rintro ok Wm ⟨hok, H⟩
  refine wcR ?_
  refine wl_mkmap KS Value.bool H rfl ?_
  intro bm w10 hbm H10
  refine wA ?_
  refine wl_nil ?_
  refine wc_seq ?_
  refine wcR ?_
  refine wV (v_fb (o2 := 2) fa44_2 rfl rfl) ?_
  refine wV (v_load one40 rfl (H10.at (by repeat constructor) rfl)) ?_
  refine wV (v_len Try.underlying40 rfl) ?_
  refine wM ?_
  refine wl_nil ?_
  refine wc_block ?_
  refine wc_loop (σ := Nat × Bool) (fun s => [(1, .pointer (some ⟨b1, 0, none⟩)), (3, .bool s.2), (8, .map (some bm)), (96, .slice a.r g.rules.length a.cr), (97, .int .i64 g.rules.length), (98, .int .i64 s.1)]) (fun s W => s.1 ≤ g.rules.length ∧ s.2 = dec (E1 g ∧ ∀ j, j < s.1 → ruleOk g j) ∧ Holds w [Mp KS Value.bool bm s.1 (metF (g.rules.take s.1)), Blk b1 44 [.slice a.k g.kinds.length a.ck, .slice a.p g.precs.length a.cp, .slice a.r g.rules.length a.cr, .slice a.q g.prods.length a.cq, .int .i64 g.start]] W) (fun s => g.rules.length - s.1) (0, ok) (sc rfl (sc rfl (sc rfl (sc rfl (sc rfl (sc rfl (sn _))))))) ⟨Nat.zero_le _, okStart hok, by rw [metF_nil] at H10; exact H10⟩ ?_
  rintro ⟨i, ok⟩ W1 ⟨hi, hok, H⟩
  dsimp only at hi hok H ⊢
  refine wcR ?_
  refine wV (v_lss rfl rfl) ?_
  refine wl_nil ?_
  refine wc_seq ?_
  refine wc_cond rfl (fun c1 => ?_) (fun c1 => ?_)
  rotate_left
  ·have c1p := oF c1
   have hE := okFin (F := ∀ i, i < g.rules.length → ruleOk g i) hok c1p hi Iff.rfl
   refine wc_exit ?_
   refine wc_seq ?_
   refine wcR ?_
   refine wV (v_fb (o2 := 3) fa44_3 rfl rfl) ?_
   refine wV (v_load one42 rfl (H.at (by repeat constructor) rfl)) ?_
   refine wV (v_len Try.underlying42 rfl) ?_
   refine wM ?_
   refine wl_nil ?_
   refine wc_block ?_
   refine wc_loop (σ := Nat × Bool) (fun s => [(1, .pointer (some ⟨b1, 0, none⟩)), (3, .bool s.2), (123, .slice a.q g.prods.length a.cq), (124, .int .i64 g.prods.length), (125, .int .i64 s.1)]) (fun s W => s.1 ≤ g.prods.length ∧ s.2 = dec ((E1 g ∧ ∀ i, i < g.rules.length → ruleOk g i) ∧ ∀ j, j < s.1 → PrOk g (g.prods.getD j pr0)) ∧ Holds w [Blk b1 44 [.slice a.k g.kinds.length a.ck, .slice a.p g.precs.length a.cp, .slice a.r g.rules.length a.cr, .slice a.q g.prods.length a.cq, .int .i64 g.start]] W) (fun s => g.prods.length - s.1) (0, ok) (sc rfl (sc rfl (sc rfl (sc rfl (sc rfl (sn _)))))) ⟨Nat.zero_le _, okStart hE, H.pm (by repeat constructor)⟩ ?_
   rintro ⟨i, ok⟩ W2 ⟨hi, hok, H⟩
   dsimp only at hi hok H ⊢
   refine wcR ?_
   refine wV (v_lss rfl rfl) ?_
   refine wl_nil ?_
   refine wc_seq ?_
   refine wc_cond rfl (fun c2 => ?_) (fun c2 => ?_)
   rotate_left
   ·have c2p := oF c2
    have hE := (okFin (F := ∀ i, i < g.prods.length → PrOk g (g.prods.getD i pr0)) hok c2p hi Iff.rfl).trans (dec_iff (gok_iff g).symm)
    refine wc_exit ?_
    refine wc_seq ?_
    refine wcR ?_
    refine wM ?_
    refine wV (v_not rfl) ?_
    refine wl_nil ?_
    refine wc_cond rfl (fun c3 => ?_) (fun c3 => ?_)
    ·have c3p := of_n_t c3
     refine wcR ?_
     refine wA ?_
     refine wl_nil ?_
     refine wc_ret ?_
     first
       | exact ⟨_, res1 rfl rfl, congrArg (Value.int .i64) (checkG_f (of_ndec (hE.symm.trans (of_n_t c3)))).symm, H.pm (Pm.nil _)⟩
       | exact ⟨_, res1 rfl rfl, congrArg (Value.int .i64) (checkG_t (of_dec (hE.symm.trans (of_n_f c3)))).symm, H.pm (Pm.nil _)⟩
    have c3p := of_n_f c3
    refine wc_skip ?_
    refine wcR ?_
    refine wA ?_
    refine wl_nil ?_
    refine wc_ret ?_
    first
      | exact ⟨_, res1 rfl rfl, congrArg (Value.int .i64) (checkG_f (of_ndec (hE.symm.trans (of_n_t c3)))).symm, H.pm (Pm.nil _)⟩
      | exact ⟨_, res1 rfl rfl, congrArg (Value.int .i64) (checkG_t (of_dec (hE.symm.trans (of_n_f c3)))).symm, H.pm (Pm.nil _)⟩
   have c2p := oT c2
   refine wc_skip ?_
   refine wc_seq ?_
   refine wc_block ?_
   refine wcR ?_
   refine wV (v_idx Try.underlying42 sz73 hr.q.ad rfl rfl (by omega) (by omega)) ?_
   obtain ⟨R128_, c128_, B128_, k128_, hc128_, hl128_, hR128_, hB128_⟩ := hr.q.atPr (i := i) (by omega)
   refine wV (v_loadN (cs := [.int .i64 (g.prods.getD i pr0).left, .slice R128_ (g.prods.getD i pr0).right.length c128_, .int .i64 (g.prods.getD i pr0).level, .int .i64 (g.prods.getD i pr0).act.x.kind, .int .i64 (g.prods.getD i pr0).act.x.at_, .string (g.prods.getD i pr0).act.x.name, .slice B128_ (g.prods.getD i pr0).act.kids.length k128_]) agg73 rfl rfl (fun q_ u_ hu_ => H.cell (hc128_ q_ u_ hu_))) ?_
   refine wl_alloc (cs := [.int .i64 0, .slice none 0 0, .int .i64 0, .int .i64 0, .int .i64 0, .string ⟨#[]⟩, .slice none 0 0]) H rfl zv73 rfl ?_
   intro b12 w16 hb12 H17
   refine wl_store (vs := [_, _, _, _, _, _, _]) H17 (by repeat constructor) sz73 rfl rfl rfl rfl rfl (by (repeat constructor)) ?_
   intro w18 H19 hw18
   refine wl_nil ?_
   refine wc_region ?_
   refine wM ?_
   refine wM ?_
   refine wl_guard rfl rfl rfl (fun g130 => ?_) (fun g130 => ?_)
   rotate_left
   ·refine wF g130 ?_
    refine wF g130 ?_
    refine wV (v_pick_f rfl g130 rfl) ?_
    refine wA ?_
    refine wl_nil ?_
    refine wc_region ?_
    refine wV (v_addi rfl rfl (by omega)) ?_
    refine wM ?_
    refine wl_nil ?_
    first
      | exact ⟨(i + 1, _), (sc rfl (sc rfl (sc rfl (sc rfl (sc rfl (sn _)))))), ⟨by dsimp only; omega, okStep hok ⟨fun hd => ⟨g130, of_dec hd⟩, fun hh => dec_t hh.2⟩, H19.pm (by repeat constructor)⟩, by dsimp only; omega⟩
      | exact ⟨(i + 1, _), (sc rfl (sc rfl (sc rfl (sc rfl (sc rfl (sn _)))))), ⟨by dsimp only; omega, okStep hok ⟨fun hd => absurd hd Bool.noConfusion, fun hh => absurd (hh.1.symm.trans g130) Bool.noConfusion⟩, H19.pm (by repeat constructor)⟩, by dsimp only; omega⟩
   refine wV (v_loadN agg44 rfl rfl (H19.ats (by repeat constructor))) ?_
   refine wO g130 ?_
   refine wV (v_loadN agg73 rfl rfl (H19.ats (by repeat constructor))) ?_
   refine wO g130 ?_
   refine wl_call en61 rfl rfl (prod_calls hg hl128_ (hR128_.below H19.old) (hB128_.below H19.old) (hg.qr _ (getD_mem (z := pr0) (show i < g.prods.length by omega))) (hg.qa _ (getD_mem (z := pr0) (show i < g.prods.length by omega)))) ?_
   rintro _ w20 ⟨rfl, Hc⟩
   have H21 := H19.call0 Hc
   refine wV (v_pick_t rfl g130 rfl) ?_
   refine wA ?_
   refine wl_nil ?_
   refine wc_region ?_
   refine wV (v_addi rfl rfl (by omega)) ?_
   refine wM ?_
   refine wl_nil ?_
   first
     | exact ⟨(i + 1, _), (sc rfl (sc rfl (sc rfl (sc rfl (sc rfl (sn _)))))), ⟨by dsimp only; omega, okStep hok ⟨fun hd => ⟨g130, of_dec hd⟩, fun hh => dec_t hh.2⟩, H21.pm (by repeat constructor)⟩, by dsimp only; omega⟩
     | exact ⟨(i + 1, _), (sc rfl (sc rfl (sc rfl (sc rfl (sc rfl (sn _)))))), ⟨by dsimp only; omega, okStep hok ⟨fun hd => absurd hd Bool.noConfusion, fun hh => absurd (hh.1.symm.trans g130) Bool.noConfusion⟩, H21.pm (by repeat constructor)⟩, by dsimp only; omega⟩
  have c1p := oT c1
  refine wc_skip ?_
  refine wc_seq ?_
  refine wc_block ?_
  refine wcR ?_
  refine wV (v_idx Try.underlying40 sz9 hr.r.ad rfl rfl (by omega) (by omega)) ?_
  refine wV (v_load one9 rfl (H.cell (hr.r.at1sN (i := i) (by omega)))) ?_
  refine wA ?_
  refine wl_nil ?_
  refine wcR ?_
  refine wM ?_
  refine wM ?_
  refine wl_guard rfl rfl rfl (fun g103 => ?_) (fun g103 => ?_)
  rotate_left
  ·refine wF g103 ?_
   refine wF g103 ?_
   refine wV (v_pick_f rfl g103 rfl) ?_
   refine wM ?_
   refine wF rfl ?_
   refine wF rfl ?_
   refine wF rfl ?_
   refine wV (v_pick_f rfl rfl rfl) ?_
   refine wM ?_
   refine wF rfl ?_
   refine wF rfl ?_
   refine wF rfl ?_
   refine wF rfl ?_
   refine wV (v_pick_f rfl rfl rfl) ?_
   refine wA ?_
   refine wl_nil ?_
   refine wc_region ?_
   refine wM ?_
   refine wM ?_
   refine wl_mapset H (by repeat constructor) Try.underlying122 (show KS.ok (g.rules.getD i ByteArray.empty) from Nat.le_trans (hg.rs _ (getD_mem (z := ByteArray.empty) (show i < g.rules.length by omega))) (by decide)) (by unfold maxLen; omega) rfl rfl rfl ?_
   intro w15 H15
   refine wl_nil ?_
   refine wc_region ?_
   refine wV (v_addi rfl rfl (by omega)) ?_
   refine wM ?_
   refine wl_nil ?_
   rw [metF_succ (by omega)] at H15
   first
     | exact ⟨(i + 1, _), (sc rfl (sc rfl (sc rfl (sc rfl (sc rfl (sc rfl (sn _))))))), ⟨by dsimp only; omega, okStep hok ⟨fun hd => absurd hd Bool.noConfusion, fun hh => absurd (hh.1.symm.trans g103) Bool.noConfusion⟩, H15.pm (by repeat constructor)⟩, by dsimp only; omega⟩
     | exact ⟨(i + 1, _), (sc rfl (sc rfl (sc rfl (sc rfl (sc rfl (sc rfl (sn _))))))), ⟨by dsimp only; omega, okStep hok ⟨fun hd => ⟨g103, ⟨by omega, by omega⟩, (dist_iff (by omega)).2 (of_ndec (of_n_t (b := dec (g.rules.getD i ByteArray.empty ∈ g.rules.take i)) hd))⟩, fun hh => congrArg (!·) (dec_f ((dist_iff (by omega)).1 hh.2.2))⟩, H15.pm (by repeat constructor)⟩, by dsimp only; omega⟩
     | exact ⟨(i + 1, _), (sc rfl (sc rfl (sc rfl (sc rfl (sc rfl (sc rfl (sn _))))))), ⟨by dsimp only; omega, okStep hok ⟨fun hd => absurd hd Bool.noConfusion, fun hh => absurd hh.2 (fun h_ => by have h_ := h_.1; omega)⟩, H15.pm (by repeat constructor)⟩, by dsimp only; omega⟩
  refine wM ?_
  refine wO g103 ?_
  refine wV (v_lens Try.underlying9 rfl) ?_
  refine wO g103 ?_
  refine wV (v_geq rfl rfl) ?_
  refine wV (v_pick_t rfl g103 rfl) ?_
  refine wM ?_
  refine wl_guard rfl rfl rfl (fun g108 => ?_) (fun g108 => ?_)
  rotate_left
  ·have g108p := oF g108
   refine wF g108 ?_
   refine wF g108 ?_
   refine wV (v_pick_f rfl g108 rfl) ?_
   refine wM ?_
   refine wF rfl ?_
   refine wF rfl ?_
   refine wF rfl ?_
   refine wF rfl ?_
   refine wV (v_pick_f rfl rfl rfl) ?_
   refine wA ?_
   refine wl_nil ?_
   refine wc_region ?_
   refine wM ?_
   refine wM ?_
   refine wl_mapset H (by repeat constructor) Try.underlying122 (show KS.ok (g.rules.getD i ByteArray.empty) from Nat.le_trans (hg.rs _ (getD_mem (z := ByteArray.empty) (show i < g.rules.length by omega))) (by decide)) (by unfold maxLen; omega) rfl rfl rfl ?_
   intro w14 H14
   refine wl_nil ?_
   refine wc_region ?_
   refine wV (v_addi rfl rfl (by omega)) ?_
   refine wM ?_
   refine wl_nil ?_
   rw [metF_succ (by omega)] at H14
   first
     | exact ⟨(i + 1, _), (sc rfl (sc rfl (sc rfl (sc rfl (sc rfl (sc rfl (sn _))))))), ⟨by dsimp only; omega, okStep hok ⟨fun hd => absurd hd Bool.noConfusion, fun hh => absurd (hh.1.symm.trans g103) Bool.noConfusion⟩, H14.pm (by repeat constructor)⟩, by dsimp only; omega⟩
     | exact ⟨(i + 1, _), (sc rfl (sc rfl (sc rfl (sc rfl (sc rfl (sc rfl (sn _))))))), ⟨by dsimp only; omega, okStep hok ⟨fun hd => ⟨g103, ⟨by omega, by omega⟩, (dist_iff (by omega)).2 (of_ndec (of_n_t (b := dec (g.rules.getD i ByteArray.empty ∈ g.rules.take i)) hd))⟩, fun hh => congrArg (!·) (dec_f ((dist_iff (by omega)).1 hh.2.2))⟩, H14.pm (by repeat constructor)⟩, by dsimp only; omega⟩
     | exact ⟨(i + 1, _), (sc rfl (sc rfl (sc rfl (sc rfl (sc rfl (sc rfl (sn _))))))), ⟨by dsimp only; omega, okStep hok ⟨fun hd => absurd hd Bool.noConfusion, fun hh => absurd hh.2 (fun h_ => by have h_ := h_.1; omega)⟩, H14.pm (by repeat constructor)⟩, by dsimp only; omega⟩
  have g108p := oT g108
  refine wM ?_
  refine wO g108 ?_
  refine wV (v_lens Try.underlying9 rfl) ?_
  refine wO g108 ?_
  refine wV (v_leq rfl rfl) ?_
  refine wV (v_pick_t rfl g108 rfl) ?_
  refine wM ?_
  refine wl_guard rfl rfl rfl (fun g113 => ?_) (fun g113 => ?_)
  rotate_left
  ·have g113p := oF g113
   refine wF g113 ?_
   refine wF g113 ?_
   refine wF g113 ?_
   refine wV (v_pick_f rfl g113 rfl) ?_
   refine wA ?_
   refine wl_nil ?_
   refine wc_region ?_
   refine wM ?_
   refine wM ?_
   refine wl_mapset H (by repeat constructor) Try.underlying122 (show KS.ok (g.rules.getD i ByteArray.empty) from Nat.le_trans (hg.rs _ (getD_mem (z := ByteArray.empty) (show i < g.rules.length by omega))) (by decide)) (by unfold maxLen; omega) rfl rfl rfl ?_
   intro w13 H13
   refine wl_nil ?_
   refine wc_region ?_
   refine wV (v_addi rfl rfl (by omega)) ?_
   refine wM ?_
   refine wl_nil ?_
   rw [metF_succ (by omega)] at H13
   first
     | exact ⟨(i + 1, _), (sc rfl (sc rfl (sc rfl (sc rfl (sc rfl (sc rfl (sn _))))))), ⟨by dsimp only; omega, okStep hok ⟨fun hd => absurd hd Bool.noConfusion, fun hh => absurd (hh.1.symm.trans g103) Bool.noConfusion⟩, H13.pm (by repeat constructor)⟩, by dsimp only; omega⟩
     | exact ⟨(i + 1, _), (sc rfl (sc rfl (sc rfl (sc rfl (sc rfl (sc rfl (sn _))))))), ⟨by dsimp only; omega, okStep hok ⟨fun hd => ⟨g103, ⟨by omega, by omega⟩, (dist_iff (by omega)).2 (of_ndec (of_n_t (b := dec (g.rules.getD i ByteArray.empty ∈ g.rules.take i)) hd))⟩, fun hh => congrArg (!·) (dec_f ((dist_iff (by omega)).1 hh.2.2))⟩, H13.pm (by repeat constructor)⟩, by dsimp only; omega⟩
     | exact ⟨(i + 1, _), (sc rfl (sc rfl (sc rfl (sc rfl (sc rfl (sc rfl (sn _))))))), ⟨by dsimp only; omega, okStep hok ⟨fun hd => absurd hd Bool.noConfusion, fun hh => absurd hh.2 (fun h_ => by have h_ := h_.1; omega)⟩, H13.pm (by repeat constructor)⟩, by dsimp only; omega⟩
  have g113p := oT g113
  refine wM ?_
  refine wO g113 ?_
  refine wM ?_
  refine wO g113 ?_
  refine wV (v_look' H (by repeat constructor) Try.underlying122 zv4 (show KS.ok (g.rules.getD i ByteArray.empty) from Nat.le_trans (hg.rs _ (getD_mem (z := ByteArray.empty) (show i < g.rules.length by omega))) (by decide)) rfl rfl (metF_get _ _)) ?_
  refine wO g113 ?_
  refine wV (v_not rfl) ?_
  refine wV (v_pick_t rfl g113 rfl) ?_
  refine wA ?_
  refine wl_nil ?_
  refine wc_region ?_
  refine wM ?_
  refine wM ?_
  refine wl_mapset H (by repeat constructor) Try.underlying122 (show KS.ok (g.rules.getD i ByteArray.empty) from Nat.le_trans (hg.rs _ (getD_mem (z := ByteArray.empty) (show i < g.rules.length by omega))) (by decide)) (by unfold maxLen; omega) rfl rfl rfl ?_
  intro w12 H12
  refine wl_nil ?_
  refine wc_region ?_
  refine wV (v_addi rfl rfl (by omega)) ?_
  refine wM ?_
  refine wl_nil ?_
  rw [metF_succ (by omega)] at H12
  first
    | exact ⟨(i + 1, _), (sc rfl (sc rfl (sc rfl (sc rfl (sc rfl (sc rfl (sn _))))))), ⟨by dsimp only; omega, okStep hok ⟨fun hd => absurd hd Bool.noConfusion, fun hh => absurd (hh.1.symm.trans g103) Bool.noConfusion⟩, H12.pm (by repeat constructor)⟩, by dsimp only; omega⟩
    | exact ⟨(i + 1, _), (sc rfl (sc rfl (sc rfl (sc rfl (sc rfl (sc rfl (sn _))))))), ⟨by dsimp only; omega, okStep hok ⟨fun hd => ⟨g103, ⟨by omega, by omega⟩, (dist_iff (by omega)).2 (of_ndec (of_n_t (b := dec (g.rules.getD i ByteArray.empty ∈ g.rules.take i)) hd))⟩, fun hh => congrArg (!·) (dec_f ((dist_iff (by omega)).1 hh.2.2))⟩, H12.pm (by repeat constructor)⟩, by dsimp only; omega⟩
    | exact ⟨(i + 1, _), (sc rfl (sc rfl (sc rfl (sc rfl (sc rfl (sc rfl (sn _))))))), ⟨by dsimp only; omega, okStep hok ⟨fun hd => absurd hd Bool.noConfusion, fun hh => absurd hh.2 (fun h_ => by have h_ := h_.1; omega)⟩, H12.pm (by repeat constructor)⟩, by dsimp only; omega⟩
end Go.Proofs.Ytgdemplcpcacaaa.GramW

/-! Which trees are derivations: the program's answer. -/
namespace Go.Proofs.Ytgdemplcpcacaaa.CheckW
open Go Go.RowKit Go.Proofs.YtgdemplcpcacaaaFx Go.Proofs.Ytgdemplcpcacaaa.PartsW Go.Proofs.Ytgdemplcpcacaaa.KindsW Go.Proofs.Ytgdemplcpcacaaa.GramW
theorem agg44 : Agg Try.prog 44 5 := agg_of Try.underlying44 (by kernel_rfl)
theorem agg50 : Agg Try.prog 50 3 := agg_of Try.underlying50 (by kernel_rfl)
theorem agg73 : Agg Try.prog 73 7 := agg_of Try.underlying73 (by kernel_rfl)
theorem en34 : Enters Try.prog 34 := enters Try.func34 (by kernel_rfl) rfl
theorem en62 : Enters Try.prog 62 := enters Try.func62 (by kernel_rfl) rfl
theorem fa44_0 : FieldAt Try.prog 44 0 0 := field_at (sz := 0) Try.underlying44 rfl (by kernel_rfl) rfl
theorem fa44_3 : FieldAt Try.prog 44 3 3 := field_at (sz := 0) Try.underlying44 rfl (by kernel_rfl) rfl
theorem fa44_4 : FieldAt Try.prog 44 4 4 := field_at (sz := 0) Try.underlying44 rfl (by kernel_rfl) rfl
theorem fa50_0 : FieldAt Try.prog 50 0 0 := field_at (sz := 0) Try.underlying50 rfl (by kernel_rfl) rfl
theorem fa50_1 : FieldAt Try.prog 50 1 1 := field_at (sz := 0) Try.underlying50 rfl (by kernel_rfl) rfl
theorem fa50_2 : FieldAt Try.prog 50 2 2 := field_at (sz := 0) Try.underlying50 rfl (by kernel_rfl) rfl
theorem fa73_0 : FieldAt Try.prog 73 0 0 := field_at (sz := 0) Try.underlying73 rfl (by kernel_rfl) rfl
theorem fa73_1 : FieldAt Try.prog 73 1 1 := field_at (sz := 0) Try.underlying73 rfl (by kernel_rfl) rfl
theorem mixed : Try.prog.follows .mixedOrders = true := by kernel_rfl
theorem one3 : One Try.prog 3 := one_of Try.underlying3 rfl (by kernel_rfl)
theorem one40 : One Try.prog 40 := one_of Try.underlying40 rfl (by kernel_rfl)
theorem one42 : One Try.prog 42 := one_of Try.underlying42 rfl (by kernel_rfl)
theorem one48 : One Try.prog 48 := one_of Try.underlying48 rfl (by kernel_rfl)
theorem one51 : One Try.prog 51 := one_of Try.underlying51 rfl (by kernel_rfl)
theorem sz3 : ∀ W, (sizeOf 3).run Try.prog W = .ok 1 W := size_of (by kernel_rfl)
theorem sz50 : ∀ W, (sizeOf 50).run Try.prog W = .ok 3 W := size_of (by kernel_rfl)
theorem sz73 : ∀ W, (sizeOf 73).run Try.prog W = .ok 7 W := size_of (by kernel_rfl)
theorem zv3 : ∀ W, (zeroValue 3).run Try.prog W = .ok (.int .i64 0) W := zero_of (by kernel_rfl)
theorem zv50 : ∀ W, (zeroValue 50).run Try.prog W = .ok (.agg #[.int .i64 0, .int .i64 0, .slice none 0 0]) W := zero_of (by kernel_rfl)
theorem zv73 : ∀ W, (zeroValue 73).run Try.prog W = .ok (.agg #[.int .i64 0, .slice none 0 0, .int .i64 0, .int .i64 0, .int .i64 0, .string ⟨#[]⟩, .slice none 0 0]) W := zero_of (by kernel_rfl)

def CheckOk (g : Pl) (row : List Int) (d : Dv) : Prop := ∀ (a : PlA) (w0 w : World) (L : List Ch) (A B : Option Addr) (b k cr : Nat) (x : Int) (at_ : Nat) (hrg : g.rd w0 a) (hr : Rd (kTr fDv) w0 B d.kids) (hR : Rd (kInt .i64) w0 A row) (hl : row.length ≤ 65536) (hat : at_ ≤ row.length) (hcn : d.cnt ≤ 1099511627776) (HH : Holds w0 (Blk b 3 [.int .i64 (at_ : Int)] :: L) w), Calls Try.prog 62 #[.agg #[.slice a.k g.kinds.length a.ck, .slice a.p g.precs.length a.cp, .slice a.r g.rules.length a.cr, .slice a.q g.prods.length a.cq, .int .i64 g.start], .agg #[.int .i64 d.x.prod, .int .i64 d.x.tok, .slice B d.kids.length k], .int .i64 x, .slice A row.length cr, .pointer (some ⟨b, 0, none⟩)] w fun e w' => ∃ v, e = .returned v ∧ ∃ m : Nat, v = .bool (shp g row d x at_).isSome ∧ (∀ q, (shp g row d x at_) = some q → m = q) ∧ Holds w0 (Blk b 3 [.int .i64 (m : Int)] :: L) w'

set_option maxHeartbeats 6400000 in
set_option maxRecDepth 100000 in
theorem check_step {g : Pl} {a : PlA} {row : List Int} {w0 w : World} {L : List Ch} {A B : Option Addr} {b k cr : Nat} {x : Int} {at_ : Nat} {d : Dv} (hG : GOk g) (hg : g.ok) (hrg : g.rd w0 a) (hr : Rd (kTr fDv) w0 B d.kids) (hR : Rd (kInt .i64) w0 A row) (hl : row.length ≤ 65536) (hat : at_ ≤ row.length) (hcn : d.cnt ≤ 1099511627776) (HH : Holds w0 (Blk b 3 [.int .i64 (at_ : Int)] :: L) w) (ih : ∀ t' ∈ d.kids, CheckOk g row t') : Calls Try.prog 62 #[.agg #[.slice a.k g.kinds.length a.ck, .slice a.p g.precs.length a.cp, .slice a.r g.rules.length a.cr, .slice a.q g.prods.length a.cq, .int .i64 g.start], .agg #[.int .i64 d.x.prod, .int .i64 d.x.tok, .slice B d.kids.length k], .int .i64 x, .slice A row.length cr, .pointer (some ⟨b, 0, none⟩)] w fun e w' => ∃ v, e = .returned v ∧ ∃ m : Nat, v = .bool (shp g row d x at_).isSome ∧ (∀ q, (shp g row d x at_) = some q → m = q) ∧ Holds w0 (Blk b 3 [.int .i64 (m : Int)] :: L) w' := by
  have hcnt := Tr.cnt_eq d
  have hkl := Tr.cnts_len d.kids
  have hgk := hg.k
  have hgq := hg.q
  have hgr := hg.r
  refine calls_of Try.func62 rfl Try.ntmps62 rfl ?_
  have H := HH
  refine wcR ?_
  refine wl_box (cs := [_, _, _, _, _]) H rfl rfl rfl ?_
  intro b5 w1 hb5 H2
  refine wl_box (cs := [_, _, _]) H2 rfl rfl rfl ?_
  intro b6 w3 hb6 H4
  refine wA ?_
  refine wl_nil ?_
  refine wc_seq ?_
  refine wcR ?_
  refine wM ?_
  refine wV (v_fb (o2 := 0) fa44_0 rfl rfl) ?_
  refine wV (v_load one40 rfl (H4.at (by repeat constructor) rfl)) ?_
  refine wV (v_len Try.underlying40 rfl) ?_
  refine wV (v_lss rfl rfl) ?_
  refine wl_nil ?_
  refine wc_cond rfl (fun c0 => ?_) (fun c0 => ?_)
  ·have c0p := oT c0
   skip
   refine wc_cut (σ := Bool) (fun q => [(2, .int .i64 x), (3, .slice A row.length cr), (4, .pointer (some ⟨b, 0, none⟩)), (11, .bool q)]) (fun q W => q = dec (leafOk row d.x d.kids.length x at_) ∧ Holds w0 (Blk b6 50 [.int .i64 d.x.prod, .int .i64 d.x.tok, .slice B d.kids.length k] :: Blk b5 44 [.slice a.k g.kinds.length a.ck, .slice a.p g.precs.length a.cp, .slice a.r g.rules.length a.cr, .slice a.q g.prods.length a.cq, .int .i64 g.start] :: Blk b 3 [.int .i64 (at_ : Int)] :: L) W) ?_ ?_
   rotate_left
   ·rintro ok Wm ⟨hok, H⟩
    refine wcR ?_
    refine wM ?_
    refine wV (v_nil rfl) ?_
    refine wV (v_load one3 rfl (H.at (by repeat constructor) rfl)) ?_
    refine wV (v_addi rfl rfl (by omega)) ?_
    refine wV (v_nil rfl) ?_
    refine wl_store (vs := [_]) H (by repeat constructor) sz3 rfl rfl rfl rfl rfl (by (repeat constructor)) ?_
    intro w5 H6 hw5
    refine wl_nil ?_
    refine wcR ?_
    refine wM ?_
    refine wA ?_
    refine wl_nil ?_
    refine wc_ret ?_
    first
      | (have q_ := hok
         rcases Bool.eq_false_or_eq_true ok with hb_ | hb_
         · rw [shp_leaf c0p (of_dec (hok.symm.trans hb_))]
           exact ⟨_, res1 rfl rfl, at_ + 1, by rw [hb_]; rfl, some_is, H6.pm (by repeat (first | exact pm_refl _ | constructor | refine pm_skip ?_))⟩
         · rw [shp_leaf_no c0p (of_ndec (hok.symm.trans hb_))]
           exact ⟨_, res1 rfl rfl, at_ + 1, by rw [hb_]; rfl, none_no, H6.pm (by repeat (first | exact pm_refl _ | constructor | refine pm_skip ?_))⟩)
      | (have q_ := c4
         rw [shp_node c0p hfit, shps_none _ _ _ (i + 1) (hss.trans (Option.not_isSome_iff_eq_none.1 (by simpa using of_n_t c4)))]
         exact ⟨_, res1 rfl rfl, m, rfl, none_no, H6.pm (by repeat (first | exact pm_refl _ | constructor | refine pm_skip ?_))⟩)
      | (have q_ := c3p
         rw [List.take_of_length_le (by omega)] at hq
         rw [shp_node c0p hfit, hq]
         exact ⟨_, res1 rfl rfl, q, rfl, some_is, H6.pm (by repeat (first | exact pm_refl _ | constructor | refine pm_skip ?_))⟩)
      | (rw [shp_node_no c0p (fun hh => by unfold nodeFit at hh; omega)]
         exact ⟨_, res1 rfl rfl, at_, rfl, none_no, H6.pm (by repeat (first | exact pm_refl _ | constructor | refine pm_skip ?_))⟩)
   refine wc_still mixed (by kernel_rfl) ?_
   have Hd := H4.drew
   refine ws_v rfl rfl rfl (v_fb (o2 := 0) fa50_0 rfl rfl) ?_
   refine ws_v rfl rfl rfl (v_load one3 rfl (Hd.at (by repeat constructor) rfl)) ?_
   refine ws_v rfl rfl rfl (v_eql rfl rfl) ?_
   refine ws_v rfl rfl rfl (v_move rfl) ?_
   refine ws_guard rfl rfl rfl (fun g23 => ?_) (fun g23 => ?_)
   rotate_left
   ·have g23p := oF g23
    refine ws_off rfl rfl g23 rfl ?_
    refine ws_off rfl rfl g23 rfl ?_
    refine ws_off rfl rfl g23 rfl ?_
    refine ws_v rfl rfl rfl (v_pick_f rfl g23 rfl) ?_
    refine ws_v rfl rfl rfl (v_move rfl) ?_
    refine ws_off rfl rfl rfl rfl ?_
    refine ws_off rfl rfl rfl rfl ?_
    refine ws_off rfl rfl rfl rfl ?_
    refine ws_off rfl rfl rfl rfl ?_
    refine ws_off rfl rfl rfl rfl ?_
    refine ws_off rfl rfl rfl rfl ?_
    refine ws_v rfl rfl rfl (v_pick_f rfl rfl rfl) ?_
    refine ws_v rfl rfl rfl (v_move rfl) ?_
    refine ws_off rfl rfl rfl rfl ?_
    refine ws_off rfl rfl rfl rfl ?_
    refine ws_off rfl rfl rfl rfl ?_
    refine ws_off rfl rfl rfl rfl ?_
    refine ws_off rfl rfl rfl rfl ?_
    refine ws_off rfl rfl rfl rfl ?_
    refine ws_v rfl rfl rfl (v_pick_f rfl rfl rfl) ?_
    refine ws_v rfl rfl rfl (v_move rfl) ?_
    refine ws_off rfl rfl rfl rfl ?_
    refine ws_off rfl rfl rfl rfl ?_
    refine ws_off rfl rfl rfl rfl ?_
    refine ws_off rfl rfl rfl rfl ?_
    refine ws_off rfl rfl rfl rfl ?_
    refine ws_off rfl rfl rfl rfl ?_
    refine ws_off rfl rfl rfl rfl ?_
    refine ws_off rfl rfl rfl rfl ?_
    refine ws_v rfl rfl rfl (v_pick_f rfl rfl rfl) ?_
    refine ws_v rfl rfl rfl (v_assign rfl) ?_
    refine ws_nil ?_
    first
      | exact ⟨_, (sc rfl (sc rfl (sc rfl (sc rfl (sn _))))), ⟨dec_eq ⟨fun hd => (by have h_ := oT hd; refine ⟨⟨⟨by omega, by omega⟩, by omega⟩, by omega, ?_⟩; simpa using h_), fun hh => decide_eq_true (by simpa using hh.2.2)⟩, Hd⟩⟩
      | exact ⟨_, (sc rfl (sc rfl (sc rfl (sc rfl (sn _))))), ⟨(dec_f fun hh => by obtain ⟨⟨⟨h1_, h2_⟩, h3_⟩, h4_, h5_⟩ := hh; omega).symm, Hd⟩⟩
   have g23p := oT g23
   refine ws_v rfl rfl rfl (v_fb (o2 := 2) fa50_2 rfl rfl) ?_
   refine ws_on' rfl rfl g23 ?_
   refine ws_v rfl rfl rfl (v_load one48 rfl (Hd.at (by repeat constructor) rfl)) ?_
   refine ws_on' rfl rfl g23 ?_
   refine ws_v rfl rfl rfl (v_len Try.underlying48 rfl) ?_
   refine ws_on' rfl rfl g23 ?_
   refine ws_v rfl rfl rfl (v_eql rfl rfl) ?_
   refine ws_v rfl rfl rfl (v_pick_t rfl g23 rfl) ?_
   refine ws_v rfl rfl rfl (v_move rfl) ?_
   refine ws_guard rfl rfl rfl (fun g29 => ?_) (fun g29 => ?_)
   rotate_left
   ·have g29p := oF g29
    refine ws_off rfl rfl g29 rfl ?_
    refine ws_off rfl rfl g29 rfl ?_
    refine ws_off rfl rfl g29 rfl ?_
    refine ws_off rfl rfl g29 rfl ?_
    refine ws_off rfl rfl g29 rfl ?_
    refine ws_v rfl rfl rfl (v_pick_f rfl g29 rfl) ?_
    refine ws_v rfl rfl rfl (v_move rfl) ?_
    refine ws_off rfl rfl rfl rfl ?_
    refine ws_off rfl rfl rfl rfl ?_
    refine ws_off rfl rfl rfl rfl ?_
    refine ws_off rfl rfl rfl rfl ?_
    refine ws_off rfl rfl rfl rfl ?_
    refine ws_off rfl rfl rfl rfl ?_
    refine ws_v rfl rfl rfl (v_pick_f rfl rfl rfl) ?_
    refine ws_v rfl rfl rfl (v_move rfl) ?_
    refine ws_off rfl rfl rfl rfl ?_
    refine ws_off rfl rfl rfl rfl ?_
    refine ws_off rfl rfl rfl rfl ?_
    refine ws_off rfl rfl rfl rfl ?_
    refine ws_off rfl rfl rfl rfl ?_
    refine ws_off rfl rfl rfl rfl ?_
    refine ws_off rfl rfl rfl rfl ?_
    refine ws_off rfl rfl rfl rfl ?_
    refine ws_v rfl rfl rfl (v_pick_f rfl rfl rfl) ?_
    refine ws_v rfl rfl rfl (v_assign rfl) ?_
    refine ws_nil ?_
    first
      | exact ⟨_, (sc rfl (sc rfl (sc rfl (sc rfl (sn _))))), ⟨dec_eq ⟨fun hd => (by have h_ := oT hd; refine ⟨⟨⟨by omega, by omega⟩, by omega⟩, by omega, ?_⟩; simpa using h_), fun hh => decide_eq_true (by simpa using hh.2.2)⟩, Hd⟩⟩
      | exact ⟨_, (sc rfl (sc rfl (sc rfl (sc rfl (sn _))))), ⟨(dec_f fun hh => by obtain ⟨⟨⟨h1_, h2_⟩, h3_⟩, h4_, h5_⟩ := hh; omega).symm, Hd⟩⟩
   have g29p := oT g29
   refine ws_v rfl rfl rfl (v_fb (o2 := 1) fa50_1 rfl rfl) ?_
   refine ws_on' rfl rfl g29 ?_
   refine ws_v rfl rfl rfl (v_load one3 rfl (Hd.at (by repeat constructor) rfl)) ?_
   refine ws_on' rfl rfl g29 ?_
   refine ws_v rfl rfl rfl (v_move rfl) ?_
   refine ws_on' rfl rfl g29 ?_
   refine ws_v rfl rfl rfl (v_nil rfl) ?_
   refine ws_on' rfl rfl g29 ?_
   refine ws_v rfl rfl rfl (v_load one3 rfl (Hd.at (by repeat constructor) rfl)) ?_
   refine ws_on' rfl rfl g29 ?_
   refine ws_v rfl rfl rfl (v_eql rfl rfl) ?_
   refine ws_v rfl rfl rfl (v_pick_t rfl g29 rfl) ?_
   refine ws_v rfl rfl rfl (v_move rfl) ?_
   refine ws_guard rfl rfl rfl (fun g37 => ?_) (fun g37 => ?_)
   rotate_left
   ·have g37p := oF g37
    refine ws_off rfl rfl g37 rfl ?_
    refine ws_off rfl rfl g37 rfl ?_
    refine ws_off rfl rfl g37 rfl ?_
    refine ws_off rfl rfl g37 rfl ?_
    refine ws_off rfl rfl g37 rfl ?_
    refine ws_v rfl rfl rfl (v_pick_f rfl g37 rfl) ?_
    refine ws_v rfl rfl rfl (v_move rfl) ?_
    refine ws_off rfl rfl rfl rfl ?_
    refine ws_off rfl rfl rfl rfl ?_
    refine ws_off rfl rfl rfl rfl ?_
    refine ws_off rfl rfl rfl rfl ?_
    refine ws_off rfl rfl rfl rfl ?_
    refine ws_off rfl rfl rfl rfl ?_
    refine ws_off rfl rfl rfl rfl ?_
    refine ws_off rfl rfl rfl rfl ?_
    refine ws_v rfl rfl rfl (v_pick_f rfl rfl rfl) ?_
    refine ws_v rfl rfl rfl (v_assign rfl) ?_
    refine ws_nil ?_
    first
      | exact ⟨_, (sc rfl (sc rfl (sc rfl (sc rfl (sn _))))), ⟨dec_eq ⟨fun hd => (by have h_ := oT hd; refine ⟨⟨⟨by omega, by omega⟩, by omega⟩, by omega, ?_⟩; simpa using h_), fun hh => decide_eq_true (by simpa using hh.2.2)⟩, Hd⟩⟩
      | exact ⟨_, (sc rfl (sc rfl (sc rfl (sc rfl (sn _))))), ⟨(dec_f fun hh => by obtain ⟨⟨⟨h1_, h2_⟩, h3_⟩, h4_, h5_⟩ := hh; omega).symm, Hd⟩⟩
   have g37p := oT g37
   refine ws_v rfl rfl rfl (v_move rfl) ?_
   refine ws_on' rfl rfl g37 ?_
   refine ws_v rfl rfl rfl (v_nil rfl) ?_
   refine ws_on' rfl rfl g37 ?_
   refine ws_v rfl rfl rfl (v_load one3 rfl (Hd.at (by repeat constructor) rfl)) ?_
   refine ws_on' rfl rfl g37 ?_
   refine ws_v rfl rfl rfl (v_move rfl) ?_
   refine ws_on' rfl rfl g37 ?_
   refine ws_v rfl rfl rfl (v_len Try.underlying51 rfl) ?_
   refine ws_on' rfl rfl g37 ?_
   refine ws_v rfl rfl rfl (v_lss rfl rfl) ?_
   refine ws_v rfl rfl rfl (v_pick_t rfl g37 rfl) ?_
   refine ws_v rfl rfl rfl (v_move rfl) ?_
   refine ws_guard rfl rfl rfl (fun g45 => ?_) (fun g45 => ?_)
   rotate_left
   ·have g45p := oF g45
    refine ws_off rfl rfl g45 rfl ?_
    refine ws_off rfl rfl g45 rfl ?_
    refine ws_off rfl rfl g45 rfl ?_
    refine ws_off rfl rfl g45 rfl ?_
    refine ws_off rfl rfl g45 rfl ?_
    refine ws_off rfl rfl g45 rfl ?_
    refine ws_off rfl rfl g45 rfl ?_
    refine ws_v rfl rfl rfl (v_pick_f rfl g45 rfl) ?_
    refine ws_v rfl rfl rfl (v_assign rfl) ?_
    refine ws_nil ?_
    first
      | exact ⟨_, (sc rfl (sc rfl (sc rfl (sc rfl (sn _))))), ⟨dec_eq ⟨fun hd => (by have h_ := oT hd; refine ⟨⟨⟨by omega, by omega⟩, by omega⟩, by omega, ?_⟩; simpa using h_), fun hh => decide_eq_true (by simpa using hh.2.2)⟩, Hd⟩⟩
      | exact ⟨_, (sc rfl (sc rfl (sc rfl (sc rfl (sn _))))), ⟨(dec_f fun hh => by obtain ⟨⟨⟨h1_, h2_⟩, h3_⟩, h4_, h5_⟩ := hh; omega).symm, Hd⟩⟩
   have g45p := oT g45
   refine ws_v rfl rfl rfl (v_move rfl) ?_
   refine ws_on' rfl rfl g45 ?_
   refine ws_v rfl rfl rfl (v_move rfl) ?_
   refine ws_on' rfl rfl g45 ?_
   refine ws_v rfl rfl rfl (v_nil rfl) ?_
   refine ws_on' rfl rfl g45 ?_
   refine ws_v rfl rfl rfl (v_load one3 rfl (Hd.at (by repeat constructor) rfl)) ?_
   refine ws_on' rfl rfl g45 ?_
   refine ws_v rfl rfl rfl (v_idx Try.underlying51 sz3 hR.ad rfl rfl (by omega) (by omega)) ?_
   refine ws_on' rfl rfl g45 ?_
   refine ws_v rfl rfl rfl (v_load one3 rfl (Hd.cell (hR.at1 (by omega) (by omega)))) ?_
   refine ws_on' rfl rfl g45 ?_
   refine ws_v rfl rfl rfl (v_move rfl) ?_
   refine ws_on' rfl rfl g45 ?_
   refine ws_v rfl rfl rfl (v_eql rfl rfl) ?_
   refine ws_v rfl rfl rfl (v_pick_t rfl g45 rfl) ?_
   refine ws_v rfl rfl rfl (v_assign rfl) ?_
   refine ws_nil ?_
   first
     | exact ⟨_, (sc rfl (sc rfl (sc rfl (sc rfl (sn _))))), ⟨dec_eq ⟨fun hd => (by have h_ := oT hd; refine ⟨⟨⟨by omega, by omega⟩, by omega⟩, by omega, ?_⟩; simpa using h_), fun hh => decide_eq_true (by simpa using hh.2.2)⟩, Hd⟩⟩
     | exact ⟨_, (sc rfl (sc rfl (sc rfl (sc rfl (sn _))))), ⟨(dec_f fun hh => by obtain ⟨⟨⟨h1_, h2_⟩, h3_⟩, h4_, h5_⟩ := hh; omega).symm, Hd⟩⟩
  have c0p := oF c0
  refine wc_skip ?_
  refine wc_seq ?_
  refine wcR ?_
  refine wV (v_fb (o2 := 0) fa50_0 rfl rfl) ?_
  refine wV (v_load one3 rfl (H4.at (by repeat constructor) rfl)) ?_
  refine wV (v_lss rfl rfl) ?_
  refine wM ?_
  refine wl_guard rfl rfl rfl (fun g64 => ?_) (fun g64 => ?_)
  rotate_left
  ·have g64p := oT g64
   refine wF g64 ?_
   refine wF g64 ?_
   refine wF g64 ?_
   refine wF g64 ?_
   refine wF g64 ?_
   refine wV (v_pick_t rfl g64 rfl) ?_
   refine wM ?_
   refine wF rfl ?_
   refine wF rfl ?_
   refine wF rfl ?_
   refine wV (v_pick_t rfl rfl rfl) ?_
   refine wl_nil ?_
   refine wc_cond_t rfl ?_
   refine wcR ?_
   refine wA ?_
   refine wl_nil ?_
   refine wc_ret ?_
   first
     | (have q_ := hok
        rcases Bool.eq_false_or_eq_true ok with hb_ | hb_
        · rw [shp_leaf c0p (of_dec (hok.symm.trans hb_))]
          exact ⟨_, res1 rfl rfl, at_ + 1, by rw [hb_]; rfl, some_is, H4.pm (by repeat (first | exact pm_refl _ | constructor | refine pm_skip ?_))⟩
        · rw [shp_leaf_no c0p (of_ndec (hok.symm.trans hb_))]
          exact ⟨_, res1 rfl rfl, at_ + 1, by rw [hb_]; rfl, none_no, H4.pm (by repeat (first | exact pm_refl _ | constructor | refine pm_skip ?_))⟩)
     | (have q_ := c4
        rw [shp_node c0p hfit, shps_none _ _ _ (i + 1) (hss.trans (Option.not_isSome_iff_eq_none.1 (by simpa using of_n_t c4)))]
        exact ⟨_, res1 rfl rfl, m, rfl, none_no, H4.pm (by repeat (first | exact pm_refl _ | constructor | refine pm_skip ?_))⟩)
     | (have q_ := c3p
        rw [List.take_of_length_le (by omega)] at hq
        rw [shp_node c0p hfit, hq]
        exact ⟨_, res1 rfl rfl, q, rfl, some_is, H4.pm (by repeat (first | exact pm_refl _ | constructor | refine pm_skip ?_))⟩)
     | (rw [shp_node_no c0p (fun hh => by unfold nodeFit at hh; omega)]
        exact ⟨_, res1 rfl rfl, at_, rfl, none_no, H4.pm (by repeat (first | exact pm_refl _ | constructor | refine pm_skip ?_))⟩)
  have g64p := oF g64
  refine wV (v_fb (o2 := 0) fa50_0 rfl rfl) ?_
  refine wO g64 ?_
  refine wV (v_load one3 rfl (H4.at (by repeat constructor) rfl)) ?_
  refine wO g64 ?_
  refine wV (v_fb (o2 := 3) fa44_3 rfl rfl) ?_
  refine wO g64 ?_
  refine wV (v_load one42 rfl (H4.at (by repeat constructor) rfl)) ?_
  refine wO g64 ?_
  refine wV (v_len Try.underlying42 rfl) ?_
  refine wO g64 ?_
  refine wV (v_geq rfl rfl) ?_
  refine wV (v_pick_f rfl g64 rfl) ?_
  refine wM ?_
  refine wl_guard rfl rfl rfl (fun g72 => ?_) (fun g72 => ?_)
  rotate_left
  ·have g72p := oT g72
   refine wF g72 ?_
   refine wF g72 ?_
   refine wV (v_pick_t rfl g72 rfl) ?_
   refine wl_nil ?_
   refine wc_cond_t rfl ?_
   refine wcR ?_
   refine wA ?_
   refine wl_nil ?_
   refine wc_ret ?_
   first
     | (have q_ := hok
        rcases Bool.eq_false_or_eq_true ok with hb_ | hb_
        · rw [shp_leaf c0p (of_dec (hok.symm.trans hb_))]
          exact ⟨_, res1 rfl rfl, at_ + 1, by rw [hb_]; rfl, some_is, H4.pm (by repeat (first | exact pm_refl _ | constructor | refine pm_skip ?_))⟩
        · rw [shp_leaf_no c0p (of_ndec (hok.symm.trans hb_))]
          exact ⟨_, res1 rfl rfl, at_ + 1, by rw [hb_]; rfl, none_no, H4.pm (by repeat (first | exact pm_refl _ | constructor | refine pm_skip ?_))⟩)
     | (have q_ := c4
        rw [shp_node c0p hfit, shps_none _ _ _ (i + 1) (hss.trans (Option.not_isSome_iff_eq_none.1 (by simpa using of_n_t c4)))]
        exact ⟨_, res1 rfl rfl, m, rfl, none_no, H4.pm (by repeat (first | exact pm_refl _ | constructor | refine pm_skip ?_))⟩)
     | (have q_ := c3p
        rw [List.take_of_length_le (by omega)] at hq
        rw [shp_node c0p hfit, hq]
        exact ⟨_, res1 rfl rfl, q, rfl, some_is, H4.pm (by repeat (first | exact pm_refl _ | constructor | refine pm_skip ?_))⟩)
     | (rw [shp_node_no c0p (fun hh => by unfold nodeFit at hh; omega)]
        exact ⟨_, res1 rfl rfl, at_, rfl, none_no, H4.pm (by repeat (first | exact pm_refl _ | constructor | refine pm_skip ?_))⟩)
  have g72p := oF g72
  refine wV (v_fb (o2 := 1) fa50_1 rfl rfl) ?_
  refine wO g72 ?_
  refine wV (v_load one3 rfl (H4.at (by repeat constructor) rfl)) ?_
  refine wO g72 ?_
  refine wV (v_neq rfl rfl) ?_
  refine wV (v_pick_f rfl g72 rfl) ?_
  refine wl_nil ?_
  refine wc_cond rfl (fun c1 => ?_) (fun c1 => ?_)
  ·have c1p := of_nd_t c1
   refine wcR ?_
   refine wA ?_
   refine wl_nil ?_
   refine wc_ret ?_
   first
     | (have q_ := hok
        rcases Bool.eq_false_or_eq_true ok with hb_ | hb_
        · rw [shp_leaf c0p (of_dec (hok.symm.trans hb_))]
          exact ⟨_, res1 rfl rfl, at_ + 1, by rw [hb_]; rfl, some_is, H4.pm (by repeat (first | exact pm_refl _ | constructor | refine pm_skip ?_))⟩
        · rw [shp_leaf_no c0p (of_ndec (hok.symm.trans hb_))]
          exact ⟨_, res1 rfl rfl, at_ + 1, by rw [hb_]; rfl, none_no, H4.pm (by repeat (first | exact pm_refl _ | constructor | refine pm_skip ?_))⟩)
     | (have q_ := c4
        rw [shp_node c0p hfit, shps_none _ _ _ (i + 1) (hss.trans (Option.not_isSome_iff_eq_none.1 (by simpa using of_n_t c4)))]
        exact ⟨_, res1 rfl rfl, m, rfl, none_no, H4.pm (by repeat (first | exact pm_refl _ | constructor | refine pm_skip ?_))⟩)
     | (have q_ := c3p
        rw [List.take_of_length_le (by omega)] at hq
        rw [shp_node c0p hfit, hq]
        exact ⟨_, res1 rfl rfl, q, rfl, some_is, H4.pm (by repeat (first | exact pm_refl _ | constructor | refine pm_skip ?_))⟩)
     | (rw [shp_node_no c0p (fun hh => by unfold nodeFit at hh; omega)]
        exact ⟨_, res1 rfl rfl, at_, rfl, none_no, H4.pm (by repeat (first | exact pm_refl _ | constructor | refine pm_skip ?_))⟩)
  have c1p := of_nd_f c1
  have hd1 : (0 ≤ d.x.prod ∧ d.x.prod < g.prods.length) ∧ d.x.tok = 0 := by first | omega | exact (by omega)
  refine wc_skip ?_
  refine wcR ?_
  refine wV (v_fb (o2 := 3) fa44_3 rfl rfl) ?_
  refine wV (v_load one42 rfl (H4.at (by repeat constructor) rfl)) ?_
  refine wV (v_fb (o2 := 0) fa50_0 rfl rfl) ?_
  refine wV (v_load one3 rfl (H4.at (by repeat constructor) rfl)) ?_
  refine wV (v_idx Try.underlying42 sz73 hrg.q.ad rfl rfl (by omega) (by omega)) ?_
  obtain ⟨R82_, c82_, B82_, k82_, hc82_, hl82_, hR82_, hB82_⟩ := hrg.q.atPrI (i := d.x.prod) (by omega) (by omega)
  have hpok := hG.2.2 d.x.prod.toNat (by omega)
  have hpl := hpok.1
  have hrl := hpl.2.1
  refine wV (v_loadN (cs := [.int .i64 (g.prods.getD d.x.prod.toNat pr0).left, .slice R82_ (g.prods.getD d.x.prod.toNat pr0).right.length c82_, .int .i64 (g.prods.getD d.x.prod.toNat pr0).level, .int .i64 (g.prods.getD d.x.prod.toNat pr0).act.x.kind, .int .i64 (g.prods.getD d.x.prod.toNat pr0).act.x.at_, .string (g.prods.getD d.x.prod.toNat pr0).act.x.name, .slice B82_ (g.prods.getD d.x.prod.toNat pr0).act.kids.length k82_]) agg73 rfl rfl (fun q_ u_ hu_ => H4.cell (hc82_ q_ u_ hu_))) ?_
  refine wl_alloc (cs := [.int .i64 0, .slice none 0 0, .int .i64 0, .int .i64 0, .int .i64 0, .string ⟨#[]⟩, .slice none 0 0]) H4 rfl zv73 rfl ?_
  intro b12 w7 hb12 H8
  refine wl_store (vs := [_, _, _, _, _, _, _]) H8 (by repeat constructor) sz73 rfl rfl rfl rfl rfl (by (repeat constructor)) ?_
  intro w9 H10 hw9
  refine wl_nil ?_
  refine wc_seq ?_
  refine wcR ?_
  refine wV (v_fb (o2 := 0) fa44_0 rfl rfl) ?_
  refine wV (v_load one40 rfl (H10.at (by repeat constructor) rfl)) ?_
  refine wV (v_len Try.underlying40 rfl) ?_
  refine wV (v_fb (o2 := 0) fa73_0 rfl rfl) ?_
  refine wV (v_load one3 rfl (H10.at (by repeat constructor) rfl)) ?_
  refine wV (v_addi rfl rfl (by omega)) ?_
  refine wM ?_
  refine wV (v_neq rfl rfl) ?_
  refine wM ?_
  refine wl_guard rfl rfl rfl (fun g91 => ?_) (fun g91 => ?_)
  rotate_left
  ·have g91p := of_nd_t g91
   refine wF g91 ?_
   refine wF g91 ?_
   refine wF g91 ?_
   refine wF g91 ?_
   refine wF g91 ?_
   refine wF g91 ?_
   refine wV (v_pick_t rfl g91 rfl) ?_
   refine wl_nil ?_
   refine wc_cond_t rfl ?_
   refine wcR ?_
   refine wA ?_
   refine wl_nil ?_
   refine wc_ret ?_
   first
     | (have q_ := hok
        rcases Bool.eq_false_or_eq_true ok with hb_ | hb_
        · rw [shp_leaf c0p (of_dec (hok.symm.trans hb_))]
          exact ⟨_, res1 rfl rfl, at_ + 1, by rw [hb_]; rfl, some_is, H10.pm (by repeat (first | exact pm_refl _ | constructor | refine pm_skip ?_))⟩
        · rw [shp_leaf_no c0p (of_ndec (hok.symm.trans hb_))]
          exact ⟨_, res1 rfl rfl, at_ + 1, by rw [hb_]; rfl, none_no, H10.pm (by repeat (first | exact pm_refl _ | constructor | refine pm_skip ?_))⟩)
     | (have q_ := c4
        rw [shp_node c0p hfit, shps_none _ _ _ (i + 1) (hss.trans (Option.not_isSome_iff_eq_none.1 (by simpa using of_n_t c4)))]
        exact ⟨_, res1 rfl rfl, m, rfl, none_no, H10.pm (by repeat (first | exact pm_refl _ | constructor | refine pm_skip ?_))⟩)
     | (have q_ := c3p
        rw [List.take_of_length_le (by omega)] at hq
        rw [shp_node c0p hfit, hq]
        exact ⟨_, res1 rfl rfl, q, rfl, some_is, H10.pm (by repeat (first | exact pm_refl _ | constructor | refine pm_skip ?_))⟩)
     | (rw [shp_node_no c0p (fun hh => by unfold nodeFit at hh; omega)]
        exact ⟨_, res1 rfl rfl, at_, rfl, none_no, H10.pm (by repeat (first | exact pm_refl _ | constructor | refine pm_skip ?_))⟩)
  have g91p := of_nd_f g91
  refine wV (v_fb (o2 := 2) fa50_2 rfl rfl) ?_
  refine wO g91 ?_
  refine wV (v_load one48 rfl (H10.at (by repeat constructor) rfl)) ?_
  refine wO g91 ?_
  refine wV (v_len Try.underlying48 rfl) ?_
  refine wO g91 ?_
  refine wV (v_fb (o2 := 1) fa73_1 rfl rfl) ?_
  refine wO g91 ?_
  refine wV (v_load one51 rfl (H10.at (by repeat constructor) rfl)) ?_
  refine wO g91 ?_
  refine wV (v_len Try.underlying51 rfl) ?_
  refine wO g91 ?_
  refine wV (v_neq rfl rfl) ?_
  refine wV (v_pick_f rfl g91 rfl) ?_
  refine wl_nil ?_
  refine wc_cond rfl (fun c2 => ?_) (fun c2 => ?_)
  ·have c2p := of_nd_t c2
   refine wcR ?_
   refine wA ?_
   refine wl_nil ?_
   refine wc_ret ?_
   first
     | (have q_ := hok
        rcases Bool.eq_false_or_eq_true ok with hb_ | hb_
        · rw [shp_leaf c0p (of_dec (hok.symm.trans hb_))]
          exact ⟨_, res1 rfl rfl, at_ + 1, by rw [hb_]; rfl, some_is, H10.pm (by repeat (first | exact pm_refl _ | constructor | refine pm_skip ?_))⟩
        · rw [shp_leaf_no c0p (of_ndec (hok.symm.trans hb_))]
          exact ⟨_, res1 rfl rfl, at_ + 1, by rw [hb_]; rfl, none_no, H10.pm (by repeat (first | exact pm_refl _ | constructor | refine pm_skip ?_))⟩)
     | (have q_ := c4
        rw [shp_node c0p hfit, shps_none _ _ _ (i + 1) (hss.trans (Option.not_isSome_iff_eq_none.1 (by simpa using of_n_t c4)))]
        exact ⟨_, res1 rfl rfl, m, rfl, none_no, H10.pm (by repeat (first | exact pm_refl _ | constructor | refine pm_skip ?_))⟩)
     | (have q_ := c3p
        rw [List.take_of_length_le (by omega)] at hq
        rw [shp_node c0p hfit, hq]
        exact ⟨_, res1 rfl rfl, q, rfl, some_is, H10.pm (by repeat (first | exact pm_refl _ | constructor | refine pm_skip ?_))⟩)
     | (rw [shp_node_no c0p (fun hh => by unfold nodeFit at hh; omega)]
        exact ⟨_, res1 rfl rfl, at_, rfl, none_no, H10.pm (by repeat (first | exact pm_refl _ | constructor | refine pm_skip ?_))⟩)
  have c2p := of_nd_f c2
  have hfit : nodeFit g d.x d.kids.length x := ⟨⟨⟨by omega, by omega⟩, by omega⟩, by omega, by omega⟩
  refine wc_skip ?_
  refine wc_seq ?_
  refine wcR ?_
  refine wV (v_fb (o2 := 2) fa50_2 rfl rfl) ?_
  refine wV (v_load one48 rfl (H10.at (by repeat constructor) rfl)) ?_
  refine wV (v_len Try.underlying48 rfl) ?_
  refine wM ?_
  refine wl_nil ?_
  refine wc_block ?_
  refine wc_loop (σ := Nat × Nat) (fun s => [(2, .int .i64 x), (3, .slice A row.length cr), (4, .pointer (some ⟨b, 0, none⟩)), (5, .pointer (some ⟨b5, 0, none⟩)), (6, .pointer (some ⟨b6, 0, none⟩)), (12, .pointer (some ⟨b12, 0, none⟩)), (101, .slice B d.kids.length k), (102, .int .i64 d.kids.length), (103, .int .i64 s.1)]) (fun s W => (s.1 ≤ d.kids.length ∧ shps g row (d.kids.take s.1) (g.prods.getD d.x.prod.toNat pr0).right at_ = some s.2) ∧ Holds w0 (Blk b 3 [.int .i64 (s.2 : Int)] :: Blk b12 73 [.int .i64 (g.prods.getD d.x.prod.toNat pr0).left, .slice R82_ (g.prods.getD d.x.prod.toNat pr0).right.length c82_, .int .i64 (g.prods.getD d.x.prod.toNat pr0).level, .int .i64 (g.prods.getD d.x.prod.toNat pr0).act.x.kind, .int .i64 (g.prods.getD d.x.prod.toNat pr0).act.x.at_, .string (g.prods.getD d.x.prod.toNat pr0).act.x.name, .slice B82_ (g.prods.getD d.x.prod.toNat pr0).act.kids.length k82_] :: Blk b6 50 [.int .i64 d.x.prod, .int .i64 d.x.tok, .slice B d.kids.length k] :: Blk b5 44 [.slice a.k g.kinds.length a.ck, .slice a.p g.precs.length a.cp, .slice a.r g.rules.length a.cr, .slice a.q g.prods.length a.cq, .int .i64 g.start] :: L) W) (fun s => d.kids.length - s.1) (0, at_) (sc rfl (sc rfl (sc rfl (sc rfl (sc rfl (sc rfl (sc rfl (sc rfl (sc rfl (sn _)))))))))) ⟨⟨Nat.zero_le _, by rw [List.take_zero]; exact shps_nil _ _⟩, H10.turn (by repeat constructor)⟩ ?_
  rintro ⟨i, q⟩ W0 ⟨⟨hi, hq⟩, H⟩
  dsimp only at hi hq H ⊢
  have hqle := (shps_le _ _ _ _ hq).2 hat
  refine wcR ?_
  refine wV (v_lss rfl rfl) ?_
  refine wl_nil ?_
  refine wc_seq ?_
  refine wc_cond rfl (fun c3 => ?_) (fun c3 => ?_)
  rotate_left
  ·have c3p := oF c3
   refine wc_exit ?_
   refine wcR ?_
   refine wA ?_
   refine wl_nil ?_
   refine wc_ret ?_
   first
     | (have q_ := hok
        rcases Bool.eq_false_or_eq_true ok with hb_ | hb_
        · rw [shp_leaf c0p (of_dec (hok.symm.trans hb_))]
          exact ⟨_, res1 rfl rfl, at_ + 1, by rw [hb_]; rfl, some_is, H.pm (by repeat (first | exact pm_refl _ | constructor | refine pm_skip ?_))⟩
        · rw [shp_leaf_no c0p (of_ndec (hok.symm.trans hb_))]
          exact ⟨_, res1 rfl rfl, at_ + 1, by rw [hb_]; rfl, none_no, H.pm (by repeat (first | exact pm_refl _ | constructor | refine pm_skip ?_))⟩)
     | (have q_ := c4
        rw [shp_node c0p hfit, shps_none _ _ _ (i + 1) (hss.trans (Option.not_isSome_iff_eq_none.1 (by simpa using of_n_t c4)))]
        exact ⟨_, res1 rfl rfl, m, rfl, none_no, H.pm (by repeat (first | exact pm_refl _ | constructor | refine pm_skip ?_))⟩)
     | (have q_ := c3p
        rw [List.take_of_length_le (by omega)] at hq
        rw [shp_node c0p hfit, hq]
        exact ⟨_, res1 rfl rfl, q, rfl, some_is, H.pm (by repeat (first | exact pm_refl _ | constructor | refine pm_skip ?_))⟩)
     | (rw [shp_node_no c0p (fun hh => by unfold nodeFit at hh; omega)]
        exact ⟨_, res1 rfl rfl, at_, rfl, none_no, H.pm (by repeat (first | exact pm_refl _ | constructor | refine pm_skip ?_))⟩)
  have c3p := oT c3
  refine wc_skip ?_
  refine wc_seq ?_
  refine wc_block ?_
  refine wcR ?_
  refine wM ?_
  refine wV (v_idx Try.underlying48 sz50 hr.ad rfl rfl (by omega) (by omega)) ?_
  obtain ⟨B107_, k107_, hc107_, hl107_, hr107_⟩ := hr.atTr dv0 (i := i) (by omega)
  refine wV (v_loadN (cs := [.int .i64 (d.kids.getD i dv0).x.prod, .int .i64 (d.kids.getD i dv0).x.tok, .slice B107_ (d.kids.getD i dv0).kids.length k107_]) agg50 rfl rfl (fun q_ u_ hu_ => H.cell (hc107_ q_ u_ hu_))) ?_
  refine wl_alloc (cs := [.int .i64 0, .int .i64 0, .slice none 0 0]) H rfl zv50 rfl ?_
  intro b14 w12 hb14 H13
  refine wA ?_
  refine wl_store (vs := [_, _, _]) H13 (by repeat constructor) sz50 rfl rfl rfl rfl rfl (by (repeat constructor)) ?_
  intro w14 H15 hw14
  refine wl_nil ?_
  refine wc_seq ?_
  refine wc_tree [0, 1, 2, 3, 4, 5, 6, 7, 8] (fun W => Holds w0 (Blk b14 50 [.int .i64 (d.kids.getD i dv0).x.prod, .int .i64 (d.kids.getD i dv0).x.tok, .slice B107_ (d.kids.getD i dv0).kids.length k107_] :: Blk b 3 [.int .i64 (q : Int)] :: Blk b12 73 [.int .i64 (g.prods.getD d.x.prod.toNat pr0).left, .slice R82_ (g.prods.getD d.x.prod.toNat pr0).right.length c82_, .int .i64 (g.prods.getD d.x.prod.toNat pr0).level, .int .i64 (g.prods.getD d.x.prod.toNat pr0).act.x.kind, .int .i64 (g.prods.getD d.x.prod.toNat pr0).act.x.at_, .string (g.prods.getD d.x.prod.toNat pr0).act.x.name, .slice B82_ (g.prods.getD d.x.prod.toNat pr0).act.kids.length k82_] :: Blk b6 50 [.int .i64 d.x.prod, .int .i64 d.x.tok, .slice B d.kids.length k] :: Blk b5 44 [.slice a.k g.kinds.length a.ck, .slice a.p g.precs.length a.cp, .slice a.r g.rules.length a.cr, .slice a.q g.prods.length a.cq, .int .i64 g.start] :: L) W) mixed ?_
  have Hd := H15.drew
  have HSd : Holds w0 (Blk b14 50 [.int .i64 (d.kids.getD i dv0).x.prod, .int .i64 (d.kids.getD i dv0).x.tok, .slice B107_ (d.kids.getD i dv0).kids.length k107_] :: Blk b 3 [.int .i64 (q : Int)] :: Blk b12 73 [.int .i64 (g.prods.getD d.x.prod.toNat pr0).left, .slice R82_ (g.prods.getD d.x.prod.toNat pr0).right.length c82_, .int .i64 (g.prods.getD d.x.prod.toNat pr0).level, .int .i64 (g.prods.getD d.x.prod.toNat pr0).act.x.kind, .int .i64 (g.prods.getD d.x.prod.toNat pr0).act.x.at_, .string (g.prods.getD d.x.prod.toNat pr0).act.x.name, .slice B82_ (g.prods.getD d.x.prod.toNat pr0).act.kids.length k82_] :: Blk b6 50 [.int .i64 d.x.prod, .int .i64 d.x.tok, .slice B d.kids.length k] :: Blk b5 44 [.slice a.k g.kinds.length a.ck, .slice a.p g.precs.length a.cp, .slice a.r g.rules.length a.cr, .slice a.q g.prods.length a.cq, .int .i64 g.start] :: L) _ := Hd.pm (by repeat (first | exact pm_refl _ | constructor))
  refine wjV (k := 0) rfl HSd (fun W HW => v_loadN agg44 rfl rfl (HW.ats (by repeat constructor))) ?_
  refine wjV (k := 1) rfl HSd (fun W HW => v_loadN agg50 rfl rfl (HW.ats (by repeat constructor))) ?_
  refine wjV (k := 2) rfl HSd (fun W HW => v_fb (o2 := 1) fa73_1 rfl rfl) ?_
  refine wjV (k := 3) rfl HSd (fun W HW => v_load one51 rfl (HW.at (by repeat constructor) rfl)) ?_
  refine wjV (k := 4) rfl HSd (fun W HW => v_move rfl) ?_
  refine wjV (k := 5) rfl HSd (fun W HW => v_idx Try.underlying51 sz3 hR82_.ad rfl rfl (by omega) (by omega)) ?_
  refine wjV (k := 6) rfl HSd (fun W HW => v_load one3 rfl (HW.cell (hR82_.at1N (i := i) (by omega)))) ?_
  refine wjV (k := 7) rfl HSd (fun W HW => v_move rfl) ?_
  refine wjV (k := 8) rfl HSd (fun W HW => v_move rfl) ?_
  refine wj_t (k := 9) rfl (by kernel_rfl) ?_
  refine wl_call en62 rfl rfl (ih _ (getD_mem (z := dv0) (show i < d.kids.length by omega)) a w0 _ _ _ _ b _ cr _ q hrg hr107_ hR hl hqle (by have h_ := Tr.cnts_succ dv0 d.kids i (by omega); have h2_ := Tr.cnts_take d.kids (i + 1); omega) (Hd.turn (A := Blk b 3 [.int .i64 (q : Int)]) (by repeat constructor))) ?_
  rintro _ w16 ⟨m, rfl, hm, Hc⟩
  have hss := shps_succ (g := g) (row := row) d.kids (g.prods.getD d.x.prod.toNat pr0).right at_ i (by omega)
  rw [hq] at hss
  rw [show (some q).bind (shp g row (d.kids.getD i dv0) ((g.prods.getD d.x.prod.toNat pr0).right.getD i 0)) = shp g row (d.kids.getD i dv0) ((g.prods.getD d.x.prod.toNat pr0).right.getD i 0) q from rfl] at hss
  refine wl_nil (tn ⟨fun hlt => absurd hlt (by rw [show allH _ _ _ = true by kernel_rfl]; simp), ?_⟩)
  refine wj_t (k := 10) rfl (by kernel_rfl) ?_
  refine wV (v_not rfl) ?_
  refine wl_nil (tn ⟨fun hlt => absurd hlt (by rw [show allH _ _ _ = true by kernel_rfl]; simp), ?_⟩)
  refine wj_done (by kernel_rfl) ?_
  refine wc_cond rfl (fun c4 => ?_) (fun c4 => ?_)
  rotate_left
  ·have c4p := of_n_f c4
   refine wc_skip ?_
   refine wc_region ?_
   refine wV (v_addi rfl rfl (by omega)) ?_
   refine wM ?_
   refine wl_nil ?_
   obtain ⟨q2, hq2⟩ := Option.isSome_iff_exists.1 (of_n_f c4)
   have hmq := hm _ hq2
   exact ⟨(i + 1, m), (sc rfl (sc rfl (sc rfl (sc rfl (sc rfl (sc rfl (sc rfl (sc rfl (sc rfl (sn _)))))))))), ⟨⟨by dsimp only; omega, by dsimp only; rw [hss, hq2, hmq]⟩, Hc.drop (.there _ (.here _ _))⟩, by dsimp only; omega⟩
  have c4p := of_n_t c4
  refine wcR ?_
  refine wA ?_
  refine wl_nil ?_
  refine wc_ret ?_
  first
    | (have q_ := hok
       rcases Bool.eq_false_or_eq_true ok with hb_ | hb_
       · rw [shp_leaf c0p (of_dec (hok.symm.trans hb_))]
         exact ⟨_, res1 rfl rfl, at_ + 1, by rw [hb_]; rfl, some_is, Hc.pm (by repeat (first | exact pm_refl _ | constructor | refine pm_skip ?_))⟩
       · rw [shp_leaf_no c0p (of_ndec (hok.symm.trans hb_))]
         exact ⟨_, res1 rfl rfl, at_ + 1, by rw [hb_]; rfl, none_no, Hc.pm (by repeat (first | exact pm_refl _ | constructor | refine pm_skip ?_))⟩)
    | (have q_ := c4
       rw [shp_node c0p hfit, shps_none _ _ _ (i + 1) (hss.trans (Option.not_isSome_iff_eq_none.1 (by simpa using of_n_t c4)))]
       exact ⟨_, res1 rfl rfl, m, rfl, none_no, Hc.pm (by repeat (first | exact pm_refl _ | constructor | refine pm_skip ?_))⟩)
    | (have q_ := c3p
       rw [List.take_of_length_le (by omega)] at hq
       rw [shp_node c0p hfit, hq]
       exact ⟨_, res1 rfl rfl, q, rfl, some_is, Hc.pm (by repeat (first | exact pm_refl _ | constructor | refine pm_skip ?_))⟩)
    | (rw [shp_node_no c0p (fun hh => by unfold nodeFit at hh; omega)]
       exact ⟨_, res1 rfl rfl, at_, rfl, none_no, Hc.pm (by repeat (first | exact pm_refl _ | constructor | refine pm_skip ?_))⟩)

theorem check_calls {g : Pl} {row : List Int} (hG : GOk g) (hg : g.ok) : ∀ d : Dv, CheckOk g row d := Tr.ind fun x kids ih => fun a w0 w L A B b k cr x at_ hrg hr hR hl hat hcn HH => check_step (d := .mk _ kids) hG hg hrg hr hR hl hat hcn HH ih

set_option maxHeartbeats 3200000 in
set_option maxRecDepth 100000 in
theorem dcheck_calls {g : Pl} {a : PlA} {row : List Int} {w : World} {A B : Option Addr} {k cr : Nat} {d : Dv} (hg : g.ok) (hrg : g.rd w a) (hr : Rd (kTr fDv) w B d.kids) (hR : Rd (kInt .i64) w A row) (hl : row.length ≤ 1099511627776) (hcn : d.cnt ≤ 1099511627776) :
    Calls Try.prog 35 #[.agg #[.slice a.k g.kinds.length a.ck, .slice a.p g.precs.length a.cp, .slice a.r g.rules.length a.cr, .slice a.q g.prods.length a.cq, .int .i64 g.start], .agg #[.int .i64 d.x.prod, .int .i64 d.x.tok, .slice B d.kids.length k], .slice A row.length cr] w fun e w' => ∃ v, e = .returned v ∧ v = .bool (dec (DrvOk g d row)) ∧ Holds w [] w' := by
  have hgk := hg.k
  have hgr := hg.r
  refine calls_of Try.func35 rfl Try.ntmps35 rfl ?_
  have H := Holds.start w
  refine wcR ?_
  refine wl_box (cs := [_, _, _, _, _]) H rfl rfl rfl ?_
  intro b3 w1 hb3 H2
  refine wl_box (cs := [_, _, _]) H2 rfl rfl rfl ?_
  intro b4 w3 hb4 H4
  refine wA ?_
  refine wl_nil ?_
  refine wc_seq ?_
  refine wcR ?_
  refine wV (v_loadN agg44 rfl rfl (H4.ats (by repeat constructor))) ?_
  refine wl_call en34 rfl rfl (gcheck_calls (hrg.below H4.old) hg) ?_
  rintro _ w5 ⟨rfl, Hc⟩
  have H6 := H4.call0 Hc
  refine wV (v_neq rfl rfl) ?_
  refine wM ?_
  refine wl_guard rfl rfl rfl (fun g11 => ?_) (fun g11 => ?_)
  rotate_left
  ·have g11p := of_nd_t g11
   refine wF g11 ?_
   refine wF g11 ?_
   refine wV (v_pick_t rfl g11 rfl) ?_
   refine wl_nil ?_
   refine wc_cond_t rfl ?_
   refine wcR ?_
   refine wA ?_
   refine wl_nil ?_
   refine wc_ret ?_
   first
     | (have q_ := g26
        obtain ⟨q, hq⟩ := Option.isSome_iff_exists.1 g26
        have hmq := hm q hq
        subst hmq
        exact ⟨_, res1 rfl rfl, congrArg Value.bool (dec_eq ⟨fun hd => ⟨hGok, hlen, by rw [hq]; exact congrArg some (by have h_ := oT hd; omega)⟩, fun hh => decide_eq_true (by have h_ := hh.2.2; rw [hq] at h_; cases h_; rfl)⟩), H6.pm (Pm.nil _)⟩)
     | (have q_ := g26
        exact ⟨_, res1 rfl rfl, congrArg Value.bool (dec_f fun hh => by rw [hh.2.2] at g26; cases g26).symm, H6.pm (Pm.nil _)⟩)
     | exact ⟨_, res1 rfl rfl, congrArg Value.bool (dec_f fun hh => by have h_ := hh.2.1; omega).symm, H6.pm (Pm.nil _)⟩
     | exact ⟨_, res1 rfl rfl, congrArg Value.bool (dec_f fun hh => by have h_ := checkG_t hh.1; omega).symm, H6.pm (Pm.nil _)⟩
  have g11p := of_nd_f g11
  refine wM ?_
  refine wO g11 ?_
  refine wV (v_len Try.underlying51 rfl) ?_
  refine wO g11 ?_
  refine wV (v_gtr rfl rfl) ?_
  refine wV (v_pick_f rfl g11 rfl) ?_
  refine wl_nil ?_
  refine wc_cond rfl (fun c0 => ?_) (fun c0 => ?_)
  ·have c0p := oT c0
   refine wcR ?_
   refine wA ?_
   refine wl_nil ?_
   refine wc_ret ?_
   first
     | (have q_ := g26
        obtain ⟨q, hq⟩ := Option.isSome_iff_exists.1 g26
        have hmq := hm q hq
        subst hmq
        exact ⟨_, res1 rfl rfl, congrArg Value.bool (dec_eq ⟨fun hd => ⟨hGok, hlen, by rw [hq]; exact congrArg some (by have h_ := oT hd; omega)⟩, fun hh => decide_eq_true (by have h_ := hh.2.2; rw [hq] at h_; cases h_; rfl)⟩), H6.pm (Pm.nil _)⟩)
     | (have q_ := g26
        exact ⟨_, res1 rfl rfl, congrArg Value.bool (dec_f fun hh => by rw [hh.2.2] at g26; cases g26).symm, H6.pm (Pm.nil _)⟩)
     | exact ⟨_, res1 rfl rfl, congrArg Value.bool (dec_f fun hh => by have h_ := hh.2.1; omega).symm, H6.pm (Pm.nil _)⟩
     | exact ⟨_, res1 rfl rfl, congrArg Value.bool (dec_f fun hh => by have h_ := checkG_t hh.1; omega).symm, H6.pm (Pm.nil _)⟩
  have c0p := oF c0
  have hGok : GOk g := Classical.byContradiction fun h_ => (by have e_ := checkG_f h_; omega)
  have hlen : row.length ≤ 65536 := by omega
  have hst := hGok.2.1.1
  refine wc_skip ?_
  refine wcR ?_
  refine wl_alloc (cs := [.int .i64 0]) H6 rfl zv3 rfl ?_
  intro b7 w7 hb7 H8
  refine wl_store (vs := [_]) H8 (by repeat constructor) sz3 rfl rfl rfl rfl rfl (by (repeat constructor)) ?_
  intro w9 H10 hw9
  refine wl_nil ?_
  refine wcR ?_
  refine wV (v_loadN agg44 rfl rfl (H10.ats (by repeat constructor))) ?_
  refine wV (v_loadN agg50 rfl rfl (H10.ats (by repeat constructor))) ?_
  refine wV (v_fb (o2 := 0) fa44_0 rfl rfl) ?_
  refine wV (v_load one40 rfl (H10.at (by repeat constructor) rfl)) ?_
  refine wV (v_len Try.underlying40 rfl) ?_
  refine wV (v_fb (o2 := 4) fa44_4 rfl rfl) ?_
  refine wV (v_load one3 rfl (H10.at (by repeat constructor) rfl)) ?_
  refine wV (v_addi rfl rfl (by omega)) ?_
  refine wM ?_
  refine wl_call en62 rfl rfl (check_calls hGok hg d a w _ _ A B b7 k cr (g.kinds.length + g.start) 0 hrg hr hR hlen (Nat.zero_le _) hcn (H10.turn (A := Blk b7 3 [.int .i64 (0 : Nat)]) (by repeat constructor))) ?_
  rintro _ w11 ⟨m, rfl, hm, Hc⟩
  refine wM ?_
  refine wl_guard rfl rfl rfl (fun g26 => ?_) (fun g26 => ?_)
  rotate_left
  ·refine wF g26 ?_
   refine wF g26 ?_
   refine wF g26 ?_
   refine wV (v_pick_f rfl g26 rfl) ?_
   refine wA ?_
   refine wl_nil ?_
   refine wc_ret ?_
   first
     | (have q_ := g26
        obtain ⟨q, hq⟩ := Option.isSome_iff_exists.1 g26
        have hmq := hm q hq
        subst hmq
        exact ⟨_, res1 rfl rfl, congrArg Value.bool (dec_eq ⟨fun hd => ⟨hGok, hlen, by rw [hq]; exact congrArg some (by have h_ := oT hd; omega)⟩, fun hh => decide_eq_true (by have h_ := hh.2.2; rw [hq] at h_; cases h_; rfl)⟩), Hc.pm (Pm.nil _)⟩)
     | (have q_ := g26
        exact ⟨_, res1 rfl rfl, congrArg Value.bool (dec_f fun hh => by rw [hh.2.2] at g26; cases g26).symm, Hc.pm (Pm.nil _)⟩)
     | exact ⟨_, res1 rfl rfl, congrArg Value.bool (dec_f fun hh => by have h_ := hh.2.1; omega).symm, Hc.pm (Pm.nil _)⟩
     | exact ⟨_, res1 rfl rfl, congrArg Value.bool (dec_f fun hh => by have h_ := checkG_t hh.1; omega).symm, Hc.pm (Pm.nil _)⟩
  refine wV (v_load one3 rfl (Hc.at (by repeat constructor) rfl)) ?_
  refine wO g26 ?_
  refine wM ?_
  refine wO g26 ?_
  refine wV (v_len Try.underlying51 rfl) ?_
  refine wO g26 ?_
  refine wV (v_eql rfl rfl) ?_
  refine wV (v_pick_t rfl g26 rfl) ?_
  refine wA ?_
  refine wl_nil ?_
  refine wc_ret ?_
  first
    | (have q_ := g26
       obtain ⟨q, hq⟩ := Option.isSome_iff_exists.1 g26
       have hmq := hm q hq
       subst hmq
       exact ⟨_, res1 rfl rfl, congrArg Value.bool (dec_eq ⟨fun hd => ⟨hGok, hlen, by rw [hq]; exact congrArg some (by have h_ := oT hd; omega)⟩, fun hh => decide_eq_true (by have h_ := hh.2.2; rw [hq] at h_; cases h_; rfl)⟩), Hc.pm (Pm.nil _)⟩)
    | (have q_ := g26
       exact ⟨_, res1 rfl rfl, congrArg Value.bool (dec_f fun hh => by rw [hh.2.2] at g26; cases g26).symm, Hc.pm (Pm.nil _)⟩)
    | exact ⟨_, res1 rfl rfl, congrArg Value.bool (dec_f fun hh => by have h_ := hh.2.1; omega).symm, Hc.pm (Pm.nil _)⟩
    | exact ⟨_, res1 rfl rfl, congrArg Value.bool (dec_f fun hh => by have h_ := checkG_t hh.1; omega).symm, Hc.pm (Pm.nil _)⟩
end Go.Proofs.Ytgdemplcpcacaaa.CheckW
