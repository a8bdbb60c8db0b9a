/- The law on checks. -/
import Derived.Test.YtkpehkadammppaaProg
import Derived.Test.YtkpehkadammppaaChks
import Derived.Test.YtkpehkadammppaaAliveW
import Derived.Test.YtkpehkadammppaaDfltW
import Derived.Test.YtkpehkadammppaaChk
import Derived.Test.YtkpehkadammppaaTabA
import Derived.Test.YtkpehkadammppaaTabB
set_option linter.unusedVariables false
set_option linter.unusedSimpArgs false
namespace Go.Proofs.Ytkpehkadammppaa.TChecks
open Go Go.RowKit Go.Proofs.YtkpehkadammppaaFx Go.Proofs.Ytkpehkadammppaa.AliveW Go.Proofs.Ytkpehkadammppaa.DfltW Go.Proofs.Ytkpehkadammppaa.Chk Go.Proofs.Ytkpehkadammppaa.TabA Go.Proofs.Ytkpehkadammppaa.TabB
theorem agg25 : Agg Try.prog 25 2 := agg_of Try.underlying25 (by kernel_rfl)
theorem en10 : Enters Try.prog 10 := enters Try.func10 (by kernel_rfl) rfl
theorem en11 : Enters Try.prog 11 := enters Try.func11 (by kernel_rfl) rfl
theorem en12 : Enters Try.prog 12 := enters Try.func12 (by kernel_rfl) rfl
theorem en13 : Enters Try.prog 13 := enters Try.func13 (by kernel_rfl) rfl
theorem en14 : Enters Try.prog 14 := enters Try.func14 (by kernel_rfl) rfl
theorem en15 : Enters Try.prog 15 := enters Try.func15 (by kernel_rfl) rfl
theorem fa27_0 : FieldAt Try.prog 27 0 0 := field_at (sz := 1) Try.underlying27 rfl (by kernel_rfl) rfl
theorem fa27_1 : FieldAt Try.prog 27 1 2 := field_at (sz := 0) Try.underlying27 rfl (by kernel_rfl) rfl
theorem fa27_2 : FieldAt Try.prog 27 2 3 := field_at (sz := 0) Try.underlying27 rfl (by kernel_rfl) rfl
theorem fa27_3 : FieldAt Try.prog 27 3 4 := field_at (sz := 0) Try.underlying27 rfl (by kernel_rfl) rfl
theorem mixed : Try.prog.follows .mixedOrders = true := by kernel_rfl
theorem one3 : One Try.prog 3 := one_of Try.underlying3 rfl (by kernel_rfl)
theorem sz25 : ∀ W, (sizeOf 25).run Try.prog W = .ok 2 W := size_of (by kernel_rfl)
theorem zv25 : ∀ W, (zeroValue 25).run Try.prog W = .ok (.agg #[.slice none 0 0, .slice none 0 0]) W := zero_of (by kernel_rfl)

set_option maxHeartbeats 1600000 in
set_option maxRecDepth 100000 in
theorem tableChecks_calls {A B : Option Addr} {ca cb : Nat} {t : Tb} {k r p : Int} {w : World} (hx : t.rd w A B) (hk : t.ok) (ik : I64 k) (ir : I64 r) (ip : I64 p) :
    Calls Try.prog 3 #[.agg #[.slice A t.mv.length ca, .slice B t.go.length cb, .int .i64 k, .int .i64 r, .int .i64 p]] w fun e w' => ∃ v, e = .returned v ∧ v = .bool true ∧ Holds w [] w' := by
  refine calls_of Try.func3 rfl Try.ntmps3 rfl ?_
  have H := Holds.start w
  refine wc_seq ?_
  refine wc_region ?_
  refine wl_box (cs := [_, _, _, _, _]) H rfl rfl rfl ?_
  intro b1 w1 hb1 H2
  refine wl_v rfl rfl rfl (v_assign rfl) ?_
  refine wl_nil ?_
  refine wc_seq ?_
  refine wc_region ?_
  refine wl_v rfl rfl rfl (v_fb (o2 := 0) fa27_0 rfl rfl) ?_
  refine wl_v rfl rfl rfl (v_loadN (cs := [_, _]) agg25 rfl rfl (H2.atsN (k := 2) (by repeat constructor) rfl)) ?_
  refine wl_call en10 rfl rfl (defaults_calls (hx.below H2.old) hk) ?_
  rintro _ w3 ⟨v1, v2, rfl, Hc⟩
  have H4 := H2.call Hc
  obtain ⟨A1, c1, rfl, _⟩ := H4.rr (f := fMv) (e := 38) (e2 := 48) (v := v1) (xss := (dfAns t).mv) (by repeat constructor)
  obtain ⟨A2, c2, rfl, _⟩ := H4.rr (f := fInt .i64) (e := 39) (e2 := 3) (v := v2) (xss := (dfAns t).go) (by repeat constructor)
  refine wl_v rfl rfl rfl (v_move rfl) ?_
  refine wl_v rfl rfl rfl (v_extract rfl rfl) ?_
  refine wl_v rfl rfl rfl (v_extract rfl rfl) ?_
  refine wl_alloc (cs := [.slice none 0 0, .slice none 0 0]) H4 rfl zv25 rfl ?_
  intro b3 w5 hb3 H6
  refine wl_store (vs := [_, _]) H6 (by repeat constructor) sz25 rfl rfl rfl rfl rfl (by repeat constructor) ?_
  intro w7 H8 hw7
  refine wl_v rfl rfl rfl (v_assign rfl) ?_
  refine wl_nil ?_
  refine wc_seq ?_
  refine wc_region ?_
  refine wl_v rfl rfl rfl (v_fb (o2 := 0) fa27_0 rfl rfl) ?_
  refine wl_v rfl rfl rfl (v_loadN (cs := [_, _]) agg25 rfl rfl (H8.atsN (k := 2) (by repeat constructor) rfl)) ?_
  refine wl_call en11 rfl rfl (rdefaults_calls (hx.below H8.old) hk) ?_
  rintro _ w9 ⟨v1, v2, rfl, Hc⟩
  have H10 := H8.call Hc
  obtain ⟨A3, c3, rfl, _⟩ := H10.rr (f := fMv) (e := 38) (e2 := 48) (v := v1) (xss := (dfAns t).mv) (by repeat constructor)
  obtain ⟨A4, c4, rfl, _⟩ := H10.rr (f := fInt .i64) (e := 39) (e2 := 3) (v := v2) (xss := (dfAns t).go) (by repeat constructor)
  refine wl_v rfl rfl rfl (v_move rfl) ?_
  refine wl_v rfl rfl rfl (v_extract rfl rfl) ?_
  refine wl_v rfl rfl rfl (v_extract rfl rfl) ?_
  refine wl_alloc (cs := [.slice none 0 0, .slice none 0 0]) H10 rfl zv25 rfl ?_
  intro b5 w11 hb5 H12
  refine wl_store (vs := [_, _]) H12 (by repeat constructor) sz25 rfl rfl rfl rfl rfl (by repeat constructor) ?_
  intro w13 H14 hw13
  refine wl_v rfl rfl rfl (v_assign rfl) ?_
  refine wl_nil ?_
  refine wc_seq ?_
  refine wc_ord [(0, true), (1, true), (2, true), (3, true), (4, true), (5, true), (6, true), (7, true), (9, true), (10, true), (11, true), (12, true), (13, true), (14, true), (15, true), (16, true), (8, false), (17, false), (18, true), (19, true), (20, true), (21, true), (22, false), (23, true), (24, true), (25, true), (26, true), (27, true), (28, true), (29, true), (30, false), (31, true), (32, true)] (fun W => Holds w [Blk b5 25 [.slice A3 (dfAns t).mv.length c3, .slice A4 (dfAns t).go.length c4], RR fMv 38 48 (.slice A3 (dfAns t).mv.length c3) (dfAns t).mv, RR (fInt .i64) 39 3 (.slice A4 (dfAns t).go.length c4) (dfAns t).go, Blk b3 25 [.slice A1 (dfAns t).mv.length c1, .slice A2 (dfAns t).go.length c2], RR fMv 38 48 (.slice A1 (dfAns t).mv.length c1) (dfAns t).mv, RR (fInt .i64) 39 3 (.slice A2 (dfAns t).go.length c2) (dfAns t).go, Blk b1 27 [.slice A t.mv.length ca, .slice B t.go.length cb, .int .i64 k, .int .i64 r, .int .i64 p]] W) mixed (by kernel_rfl) (fun _ _ _ h => h) ?_
  have Hd := H14.drew
  have HSd : Holds w [Blk b5 25 [.slice A3 (dfAns t).mv.length c3, .slice A4 (dfAns t).go.length c4], RR fMv 38 48 (.slice A3 (dfAns t).mv.length c3) (dfAns t).mv, RR (fInt .i64) 39 3 (.slice A4 (dfAns t).go.length c4) (dfAns t).go, Blk b3 25 [.slice A1 (dfAns t).mv.length c1, .slice A2 (dfAns t).go.length c2], RR fMv 38 48 (.slice A1 (dfAns t).mv.length c1) (dfAns t).mv, RR (fInt .i64) 39 3 (.slice A2 (dfAns t).go.length c2) (dfAns t).go, Blk b1 27 [.slice A t.mv.length ca, .slice B t.go.length cb, .int .i64 k, .int .i64 r, .int .i64 p]] _ := Hd.pm (by repeat constructor)
  refine wo_v rfl HSd rfl rfl rfl (fun W HW => v_fb (o2 := 0) fa27_0 rfl rfl) ?_
  refine wo_v rfl HSd rfl rfl rfl (fun W HW => v_loadN (cs := [_, _]) agg25 rfl rfl (HW.atsN (k := 2) (by repeat constructor) rfl)) ?_
  refine wo_v rfl HSd rfl rfl rfl (fun W HW => v_fb (o2 := 2) fa27_1 rfl rfl) ?_
  refine wo_v rfl HSd rfl rfl rfl (fun W HW => v_load one3 rfl (HW.at (by repeat constructor) rfl)) ?_
  refine wo_v rfl HSd rfl rfl rfl (fun W HW => v_fb (o2 := 3) fa27_2 rfl rfl) ?_
  refine wo_v rfl HSd rfl rfl rfl (fun W HW => v_load one3 rfl (HW.at (by repeat constructor) rfl)) ?_
  refine wo_v rfl HSd rfl rfl rfl (fun W HW => v_fb (o2 := 4) fa27_3 rfl rfl) ?_
  refine wo_v rfl HSd rfl rfl rfl (fun W HW => v_load one3 rfl (HW.at (by repeat constructor) rfl)) ?_
  refine wo_v rfl HSd rfl rfl rfl (fun W HW => v_fb (o2 := 0) fa27_0 rfl rfl) ?_
  refine wo_v rfl HSd rfl rfl rfl (fun W HW => v_loadN (cs := [_, _]) agg25 rfl rfl (HW.atsN (k := 2) (by repeat constructor) rfl)) ?_
  refine wo_v rfl HSd rfl rfl rfl (fun W HW => v_fb (o2 := 2) fa27_1 rfl rfl) ?_
  refine wo_v rfl HSd rfl rfl rfl (fun W HW => v_load one3 rfl (HW.at (by repeat constructor) rfl)) ?_
  refine wo_v rfl HSd rfl rfl rfl (fun W HW => v_fb (o2 := 3) fa27_2 rfl rfl) ?_
  refine wo_v rfl HSd rfl rfl rfl (fun W HW => v_load one3 rfl (HW.at (by repeat constructor) rfl)) ?_
  refine wo_v rfl HSd rfl rfl rfl (fun W HW => v_fb (o2 := 4) fa27_3 rfl rfl) ?_
  refine wo_v rfl HSd rfl rfl rfl (fun W HW => v_load one3 rfl (HW.at (by repeat constructor) rfl)) ?_
  refine wo_t rfl ?_
  refine wl_call en12 rfl rfl (check_calls (hx.below Hd.old) hk) ?_
  rintro _ w15 ⟨rfl, Hc⟩
  have H16 := Hd.call Hc
  have HS17 : Holds w [Blk b5 25 [.slice A3 (dfAns t).mv.length c3, .slice A4 (dfAns t).go.length c4], RR fMv 38 48 (.slice A3 (dfAns t).mv.length c3) (dfAns t).mv, RR (fInt .i64) 39 3 (.slice A4 (dfAns t).go.length c4) (dfAns t).go, Blk b3 25 [.slice A1 (dfAns t).mv.length c1, .slice A2 (dfAns t).go.length c2], RR fMv 38 48 (.slice A1 (dfAns t).mv.length c1) (dfAns t).mv, RR (fInt .i64) 39 3 (.slice A2 (dfAns t).go.length c2) (dfAns t).go, Blk b1 27 [.slice A t.mv.length ca, .slice B t.go.length cb, .int .i64 k, .int .i64 r, .int .i64 p]] _ := H16.pm (by repeat constructor)
  refine wl_nil (tn ⟨fun _ => HS17, ?_⟩)
  refine wo_t rfl ?_
  refine wl_call en13 rfl rfl (rcheck_calls (hx.below H16.old) hk ik ir ip) ?_
  rintro _ w18 ⟨rfl, Hc⟩
  have H19 := H16.call Hc
  have HS20 : Holds w [Blk b5 25 [.slice A3 (dfAns t).mv.length c3, .slice A4 (dfAns t).go.length c4], RR fMv 38 48 (.slice A3 (dfAns t).mv.length c3) (dfAns t).mv, RR (fInt .i64) 39 3 (.slice A4 (dfAns t).go.length c4) (dfAns t).go, Blk b3 25 [.slice A1 (dfAns t).mv.length c1, .slice A2 (dfAns t).go.length c2], RR fMv 38 48 (.slice A1 (dfAns t).mv.length c1) (dfAns t).mv, RR (fInt .i64) 39 3 (.slice A2 (dfAns t).go.length c2) (dfAns t).go, Blk b1 27 [.slice A t.mv.length ca, .slice B t.go.length cb, .int .i64 k, .int .i64 r, .int .i64 p]] _ := H19.pm (by repeat constructor)
  refine wl_nil (tn ⟨fun _ => HS20, ?_⟩)
  refine wo_v rfl HS20 rfl rfl rfl (fun W HW => v_eql rfl rfl) ?_
  refine wo_v rfl HS20 rfl rfl rfl (fun W HW => v_move rfl) ?_
  refine wo_guard (dj := 38) rfl (fun g38 => ?_) (fun g38 => ?_)
  · have g38p := of_decide_eq_true g38
    refine wo_vg rfl rfl rfl g38 HS20 rfl (fun W HW => v_loadN agg25 rfl rfl (HW.ats (by repeat constructor))) ?_
    refine wo_vg rfl rfl rfl g38 HS20 rfl (fun W HW => v_loadN agg25 rfl rfl (HW.ats (by repeat constructor))) ?_
    refine wo_t rfl ?_
    refine wl_on' rfl rfl g38 ?_
    refine wl_call en14 rfl rfl (same_calls ⟨H19.rrR (f := fMv) (e := 38) (e2 := 48) (A := A1) (xss := (dfAns t).mv) (by repeat constructor), H19.rrR (f := fInt .i64) (e := 39) (e2 := 3) (A := A2) (xss := (dfAns t).go) (by repeat constructor)⟩ ⟨H19.rrR (f := fMv) (e := 38) (e2 := 48) (A := A3) (xss := (dfAns t).mv) (by repeat constructor), H19.rrR (f := fInt .i64) (e := 39) (e2 := 3) (A := A4) (xss := (dfAns t).go) (by repeat constructor)⟩ (dfAns_ok hk) (dfAns_ok hk)) ?_
    rintro _ w21 ⟨rfl, Hc⟩
    have H22 := H19.call Hc
    have HS23 : Holds w [Blk b5 25 [.slice A3 (dfAns t).mv.length c3, .slice A4 (dfAns t).go.length c4], RR fMv 38 48 (.slice A3 (dfAns t).mv.length c3) (dfAns t).mv, RR (fInt .i64) 39 3 (.slice A4 (dfAns t).go.length c4) (dfAns t).go, Blk b3 25 [.slice A1 (dfAns t).mv.length c1, .slice A2 (dfAns t).go.length c2], RR fMv 38 48 (.slice A1 (dfAns t).mv.length c1) (dfAns t).mv, RR (fInt .i64) 39 3 (.slice A2 (dfAns t).go.length c2) (dfAns t).go, Blk b1 27 [.slice A t.mv.length ca, .slice B t.go.length cb, .int .i64 k, .int .i64 r, .int .i64 p]] _ := H22.pm (by repeat constructor)
    refine wl_nil (tn ⟨fun _ => HS23, ?_⟩)
    refine wo_v rfl HS23 rfl rfl rfl (fun W HW => v_pick_t rfl g38 rfl) ?_
    refine wo_v rfl HS23 rfl rfl rfl (fun W HW => v_move rfl) ?_
    refine wo_guard (dj := 43) rfl (fun g43 => ?_) (fun g43 => ?_)
    · have g43p := of_decide_eq_true g43
      refine wo_vg rfl rfl rfl g43 HS23 rfl (fun W HW => v_move rfl) ?_
      refine wo_vg rfl rfl rfl g43 HS23 rfl (fun W HW => v_move rfl) ?_
      refine wo_vg rfl rfl rfl g43 HS23 rfl (fun W HW => v_eql rfl rfl) ?_
      refine wo_v rfl HS23 rfl rfl rfl (fun W HW => v_pick_t rfl g43 rfl) ?_
      refine wo_v rfl HS23 rfl rfl rfl (fun W HW => v_move rfl) ?_
      refine wo_guard (dj := 48) rfl (fun g48 => ?_) (fun g48 => ?_)
      · have g48p := of_decide_eq_true g48
        refine wo_t rfl ?_
        refine wl_on' rfl rfl g48 ?_
        refine wl_call en15 rfl rfl (alive_calls) ?_
        rintro _ w24 ⟨rfl, Hc⟩
        have H25 := H22.call Hc
        have HS26 : Holds w [Blk b5 25 [.slice A3 (dfAns t).mv.length c3, .slice A4 (dfAns t).go.length c4], RR fMv 38 48 (.slice A3 (dfAns t).mv.length c3) (dfAns t).mv, RR (fInt .i64) 39 3 (.slice A4 (dfAns t).go.length c4) (dfAns t).go, Blk b3 25 [.slice A1 (dfAns t).mv.length c1, .slice A2 (dfAns t).go.length c2], RR fMv 38 48 (.slice A1 (dfAns t).mv.length c1) (dfAns t).mv, RR (fInt .i64) 39 3 (.slice A2 (dfAns t).go.length c2) (dfAns t).go, Blk b1 27 [.slice A t.mv.length ca, .slice B t.go.length cb, .int .i64 k, .int .i64 r, .int .i64 p]] _ := H25.pm (by repeat constructor)
        refine wl_nil (tn ⟨fun _ => HS26, ?_⟩)
        refine wo_v rfl HS26 rfl rfl rfl (fun W HW => v_pick_t rfl g48 rfl) ?_
        refine wo_v rfl HS26 rfl rfl rfl (fun W HW => v_assign rfl) ?_
        refine wo_nil ?_
        refine wc_ret ?_
        exact ⟨_, res1 rfl rfl, rfl, H25.pm (Pm.nil _)⟩
      · have g48p := of_decide_eq_false g48
        exact absurd rfl g48p
    · have g43p := of_decide_eq_false g43
      exact absurd rfl g43p
  · have g38p := of_decide_eq_false g38
    exact absurd rfl g38p
end Go.Proofs.Ytkpehkadammppaa.TChecks
