/- The law on looks. -/
import Derived.Test.YtkpehkadammppaaProg
import Derived.Test.YtkpehkadammppaaUnp
import Derived.Test.YtkpehkadammppaaUnpW
import Derived.Test.YtkpehkadammppaaLook
import Derived.Test.YtkpehkadammppaaAliveW
import Derived.Test.YtkpehkadammppaaTabA
import Derived.Test.YtkpehkadammppaaChks
set_option linter.unusedVariables false
set_option linter.unusedSimpArgs false
namespace Go.Proofs.Ytkpehkadammppaa.TLooks
open Go Go.RowKit Go.Proofs.YtkpehkadammppaaFx Go.Proofs.Ytkpehkadammppaa.UnpW Go.Proofs.Ytkpehkadammppaa.Look Go.Proofs.Ytkpehkadammppaa.AliveW Go.Proofs.Ytkpehkadammppaa.TabA
theorem agg25 : Agg Try.prog 25 2 := agg_of Try.underlying25 (by kernel_rfl)
theorem agg41 : Agg Try.prog 41 9 := agg_of Try.underlying41 (by kernel_rfl)
theorem en14 : Enters Try.prog 14 := enters Try.func14 (by kernel_rfl) rfl
theorem en15 : Enters Try.prog 15 := enters Try.func15 (by kernel_rfl) rfl
theorem en21 : Enters Try.prog 21 := enters Try.func21 (by kernel_rfl) rfl
theorem en22 : Enters Try.prog 22 := enters Try.func22 (by kernel_rfl) rfl
theorem en23 : Enters Try.prog 23 := enters Try.func23 (by kernel_rfl) rfl
theorem en24 : Enters Try.prog 24 := enters Try.func24 (by kernel_rfl) rfl
theorem en25 : Enters Try.prog 25 := enters Try.func25 (by kernel_rfl) rfl
theorem en26 : Enters Try.prog 26 := enters Try.func26 (by kernel_rfl) rfl
theorem eqm48 : EqlMv Try.prog 48 := eql_mv (e := 3) Try.underlying48 (by kernel_rfl) (by kernel_rfl) Try.underlying3 rfl rfl
theorem mixed : Try.prog.follows .mixedOrders = true := by kernel_rfl
theorem sz25 : ∀ W, (sizeOf 25).run Try.prog W = .ok 2 W := size_of (by kernel_rfl)
theorem zv25 : ∀ W, (zeroValue 25).run Try.prog W = .ok (.agg #[.slice none 0 0, .slice none 0 0]) W := zero_of (by kernel_rfl)

set_option maxHeartbeats 1600000 in
set_option maxRecDepth 100000 in
theorem tableLooks_calls {a : PkA} {p : Pk} {s k : Int} {w : World} (hp : p.rd w a) (hk : p.ok) (hu : (upAns p).ok) (is : I64 s) (ik : I64 k) :
    Calls Try.prog 7 #[p.val a, .int .i64 s, .int .i64 k] w fun e w' => ∃ v, e = .returned v ∧ v = .bool true ∧ Holds w [] w' := by
  refine calls_of Try.func7 rfl Try.ntmps7 rfl ?_
  have H := Holds.start w
  refine wc_seq ?_
  refine wc_region ?_
  refine wl_box (cs := [_, _, _, _, _, _, _, _, _]) H rfl rfl rfl ?_
  intro b3 w1 hb3 H2
  refine wl_v rfl rfl rfl (v_assign rfl) ?_
  refine wl_nil ?_
  refine wc_seq ?_
  refine wc_region ?_
  refine wl_v rfl rfl rfl (v_loadN agg41 rfl rfl (H2.ats (by repeat constructor))) ?_
  refine wl_call en21 rfl rfl (unpack_calls (hp.below H2.old) hk) ?_
  rintro _ w3 ⟨v1, v2, rfl, Hc⟩
  have H4 := H2.call Hc
  obtain ⟨A1, c1, rfl, _⟩ := H4.rr (f := fMv) (e := 38) (e2 := 48) (v := v1) (xss := (upAns p).mv) (by repeat constructor)
  obtain ⟨A2, c2, rfl, _⟩ := H4.rr (f := fInt .i64) (e := 39) (e2 := 3) (v := v2) (xss := (upAns p).go) (by repeat constructor)
  refine wl_v rfl rfl rfl (v_move rfl) ?_
  refine wl_v rfl rfl rfl (v_extract rfl rfl) ?_
  refine wl_v rfl rfl rfl (v_extract rfl rfl) ?_
  refine wl_alloc (cs := [.slice none 0 0, .slice none 0 0]) H4 rfl zv25 rfl ?_
  intro b7 w5 hb7 H6
  refine wl_store (vs := [_, _]) H6 (by repeat constructor) sz25 rfl rfl rfl rfl rfl (by repeat constructor) ?_
  intro w7 H8 hw7
  refine wl_v rfl rfl rfl (v_assign rfl) ?_
  refine wl_nil ?_
  refine wc_seq ?_
  refine wc_region ?_
  refine wl_v rfl rfl rfl (v_loadN agg41 rfl rfl (H8.ats (by repeat constructor))) ?_
  refine wl_call en22 rfl rfl (runpack_calls (hp.below H8.old) hk) ?_
  rintro _ w9 ⟨v1, v2, rfl, Hc⟩
  have H10 := H8.call Hc
  obtain ⟨A3, c3, rfl, _⟩ := H10.rr (f := fMv) (e := 38) (e2 := 48) (v := v1) (xss := (upAns p).mv) (by repeat constructor)
  obtain ⟨A4, c4, rfl, _⟩ := H10.rr (f := fInt .i64) (e := 39) (e2 := 3) (v := v2) (xss := (upAns p).go) (by repeat constructor)
  refine wl_v rfl rfl rfl (v_move rfl) ?_
  refine wl_v rfl rfl rfl (v_extract rfl rfl) ?_
  refine wl_v rfl rfl rfl (v_extract rfl rfl) ?_
  refine wl_alloc (cs := [.slice none 0 0, .slice none 0 0]) H10 rfl zv25 rfl ?_
  intro b9 w11 hb9 H12
  refine wl_store (vs := [_, _]) H12 (by repeat constructor) sz25 rfl rfl rfl rfl rfl (by repeat constructor) ?_
  intro w13 H14 hw13
  refine wl_v rfl rfl rfl (v_assign rfl) ?_
  refine wl_nil ?_
  refine wc_seq ?_
  refine wc_tree [0, 1, 2, 4, 5, 6, 8, 9, 10, 11, 12, 14, 15, 16, 18, 19, 20, 21, 22, 24, 25, 26, 27, 28, 29, 30, 32, 33] (fun W => Holds w [Blk b9 25 [.slice A3 (upAns p).mv.length c3, .slice A4 (upAns p).go.length c4], RR fMv 38 48 (.slice A3 (upAns p).mv.length c3) (upAns p).mv, RR (fInt .i64) 39 3 (.slice A4 (upAns p).go.length c4) (upAns p).go, Blk b7 25 [.slice A1 (upAns p).mv.length c1, .slice A2 (upAns p).go.length c2], RR fMv 38 48 (.slice A1 (upAns p).mv.length c1) (upAns p).mv, RR (fInt .i64) 39 3 (.slice A2 (upAns p).go.length c2) (upAns p).go, Blk b3 41 [.int .i64 p.kinds, .int .i64 p.rules, .slice a.d p.dflt.length a.kd, .slice a.b p.base.length a.kb, .slice a.c p.check.length a.kc, .slice a.e p.cell.length a.ke, .slice a.gb p.gbase.length a.kgb, .slice a.gc p.gcheck.length a.kgc, .slice a.ge p.gcell.length a.kge]] W) mixed ?_
  have Hd := H14.drew
  have HSd : Holds w [Blk b9 25 [.slice A3 (upAns p).mv.length c3, .slice A4 (upAns p).go.length c4], RR fMv 38 48 (.slice A3 (upAns p).mv.length c3) (upAns p).mv, RR (fInt .i64) 39 3 (.slice A4 (upAns p).go.length c4) (upAns p).go, Blk b7 25 [.slice A1 (upAns p).mv.length c1, .slice A2 (upAns p).go.length c2], RR fMv 38 48 (.slice A1 (upAns p).mv.length c1) (upAns p).mv, RR (fInt .i64) 39 3 (.slice A2 (upAns p).go.length c2) (upAns p).go, Blk b3 41 [.int .i64 p.kinds, .int .i64 p.rules, .slice a.d p.dflt.length a.kd, .slice a.b p.base.length a.kb, .slice a.c p.check.length a.kc, .slice a.e p.cell.length a.ke, .slice a.gb p.gbase.length a.kgb, .slice a.gc p.gcheck.length a.kgc, .slice a.ge p.gcell.length a.kge]] _ := Hd.pm (by repeat constructor)
  refine wj_v (k := 0) rfl (by kernel_rfl) (fun _ _ _ h => h) HSd rfl rfl rfl (fun W HW => v_loadN agg41 rfl rfl (HW.ats (by repeat constructor))) ?_
  refine wj_v (k := 1) rfl (by kernel_rfl) (fun _ _ _ h => h) HSd rfl rfl rfl (fun W HW => v_move rfl) ?_
  refine wj_v (k := 2) rfl (by kernel_rfl) (fun _ _ _ h => h) HSd rfl rfl rfl (fun W HW => v_move rfl) ?_
  refine wj_v (k := 4) rfl (by kernel_rfl) (fun _ _ _ h => h) HSd rfl rfl rfl (fun W HW => v_loadN agg41 rfl rfl (HW.ats (by repeat constructor))) ?_
  refine wj_v (k := 5) rfl (by kernel_rfl) (fun _ _ _ h => h) HSd rfl rfl rfl (fun W HW => v_move rfl) ?_
  refine wj_v (k := 6) rfl (by kernel_rfl) (fun _ _ _ h => h) HSd rfl rfl rfl (fun W HW => v_move rfl) ?_
  refine wj_t (k := 3) rfl (by kernel_rfl) ?_
  refine wl_call en23 rfl rfl (move2_calls (hp.below Hd.old) hk is ik) ?_
  rintro _ w15 ⟨rfl, Hc⟩
  have H16 := Hd.call Hc
  have HS17 : Holds w [Blk b9 25 [.slice A3 (upAns p).mv.length c3, .slice A4 (upAns p).go.length c4], RR fMv 38 48 (.slice A3 (upAns p).mv.length c3) (upAns p).mv, RR (fInt .i64) 39 3 (.slice A4 (upAns p).go.length c4) (upAns p).go, Blk b7 25 [.slice A1 (upAns p).mv.length c1, .slice A2 (upAns p).go.length c2], RR fMv 38 48 (.slice A1 (upAns p).mv.length c1) (upAns p).mv, RR (fInt .i64) 39 3 (.slice A2 (upAns p).go.length c2) (upAns p).go, Blk b3 41 [.int .i64 p.kinds, .int .i64 p.rules, .slice a.d p.dflt.length a.kd, .slice a.b p.base.length a.kb, .slice a.c p.check.length a.kc, .slice a.e p.cell.length a.ke, .slice a.gb p.gbase.length a.kgb, .slice a.gc p.gcheck.length a.kgc, .slice a.ge p.gcell.length a.kge]] _ := H16.pm (by repeat constructor)
  refine wl_nil (tn ⟨fun _ => HS17, ?_⟩)
  refine wj_t (k := 7) rfl (by kernel_rfl) ?_
  refine wl_call en24 rfl rfl (rmove2_calls (hp.below H16.old) hk is ik) ?_
  rintro _ w18 ⟨rfl, Hc⟩
  have H19 := H16.call Hc
  have HS20 : Holds w [Blk b9 25 [.slice A3 (upAns p).mv.length c3, .slice A4 (upAns p).go.length c4], RR fMv 38 48 (.slice A3 (upAns p).mv.length c3) (upAns p).mv, RR (fInt .i64) 39 3 (.slice A4 (upAns p).go.length c4) (upAns p).go, Blk b7 25 [.slice A1 (upAns p).mv.length c1, .slice A2 (upAns p).go.length c2], RR fMv 38 48 (.slice A1 (upAns p).mv.length c1) (upAns p).mv, RR (fInt .i64) 39 3 (.slice A2 (upAns p).go.length c2) (upAns p).go, Blk b3 41 [.int .i64 p.kinds, .int .i64 p.rules, .slice a.d p.dflt.length a.kd, .slice a.b p.base.length a.kb, .slice a.c p.check.length a.kc, .slice a.e p.cell.length a.ke, .slice a.gb p.gbase.length a.kgb, .slice a.gc p.gcheck.length a.kgc, .slice a.ge p.gcell.length a.kge]] _ := H19.pm (by repeat constructor)
  refine wl_nil (tn ⟨fun _ => HS20, ?_⟩)
  refine wj_v (k := 8) rfl (by kernel_rfl) (fun _ _ _ h => h) HS20 rfl rfl rfl (fun W HW => v_eqlm  eqm48 rfl rfl) ?_
  refine wj_v (k := 9) rfl (by kernel_rfl) (fun _ _ _ h => h) HS20 rfl rfl rfl (fun W HW => v_move rfl) ?_
  refine wj_guard (dj := 30) rfl (fun g30 => ?_) (fun g30 => ?_)
  · have g30p := of_decide_eq_true g30
    refine wj_vg (k := 10) rfl (by kernel_rfl) (fun _ _ _ h => h) rfl rfl g30 HS20 rfl (fun W HW => v_loadN agg41 rfl rfl (HW.ats (by repeat constructor))) ?_
    refine wj_vg (k := 11) rfl (by kernel_rfl) (fun _ _ _ h => h) rfl rfl g30 HS20 rfl (fun W HW => v_move rfl) ?_
    refine wj_vg (k := 12) rfl (by kernel_rfl) (fun _ _ _ h => h) rfl rfl g30 HS20 rfl (fun W HW => v_move rfl) ?_
    refine wj_vg (k := 14) rfl (by kernel_rfl) (fun _ _ _ h => h) rfl rfl g30 HS20 rfl (fun W HW => v_loadN agg41 rfl rfl (HW.ats (by repeat constructor))) ?_
    refine wj_vg (k := 15) rfl (by kernel_rfl) (fun _ _ _ h => h) rfl rfl g30 HS20 rfl (fun W HW => v_move rfl) ?_
    refine wj_vg (k := 16) rfl (by kernel_rfl) (fun _ _ _ h => h) rfl rfl g30 HS20 rfl (fun W HW => v_move rfl) ?_
    refine wj_t (k := 13) rfl (by kernel_rfl) ?_
    refine wl_on' rfl rfl g30 ?_
    refine wl_call en25 rfl rfl (goto_calls (hp.below H19.old) hk is ik) ?_
    rintro _ w21 ⟨rfl, Hc⟩
    have H22 := H19.call Hc
    have HS23 : Holds w [Blk b9 25 [.slice A3 (upAns p).mv.length c3, .slice A4 (upAns p).go.length c4], RR fMv 38 48 (.slice A3 (upAns p).mv.length c3) (upAns p).mv, RR (fInt .i64) 39 3 (.slice A4 (upAns p).go.length c4) (upAns p).go, Blk b7 25 [.slice A1 (upAns p).mv.length c1, .slice A2 (upAns p).go.length c2], RR fMv 38 48 (.slice A1 (upAns p).mv.length c1) (upAns p).mv, RR (fInt .i64) 39 3 (.slice A2 (upAns p).go.length c2) (upAns p).go, Blk b3 41 [.int .i64 p.kinds, .int .i64 p.rules, .slice a.d p.dflt.length a.kd, .slice a.b p.base.length a.kb, .slice a.c p.check.length a.kc, .slice a.e p.cell.length a.ke, .slice a.gb p.gbase.length a.kgb, .slice a.gc p.gcheck.length a.kgc, .slice a.ge p.gcell.length a.kge]] _ := H22.pm (by repeat constructor)
    refine wl_nil (tn ⟨fun _ => HS23, ?_⟩)
    refine wj_t (k := 17) rfl (by kernel_rfl) ?_
    refine wl_on' rfl rfl g30 ?_
    refine wl_call en26 rfl rfl (rgoto_calls (hp.below H22.old) hk is ik) ?_
    rintro _ w24 ⟨rfl, Hc⟩
    have H25 := H22.call Hc
    have HS26 : Holds w [Blk b9 25 [.slice A3 (upAns p).mv.length c3, .slice A4 (upAns p).go.length c4], RR fMv 38 48 (.slice A3 (upAns p).mv.length c3) (upAns p).mv, RR (fInt .i64) 39 3 (.slice A4 (upAns p).go.length c4) (upAns p).go, Blk b7 25 [.slice A1 (upAns p).mv.length c1, .slice A2 (upAns p).go.length c2], RR fMv 38 48 (.slice A1 (upAns p).mv.length c1) (upAns p).mv, RR (fInt .i64) 39 3 (.slice A2 (upAns p).go.length c2) (upAns p).go, Blk b3 41 [.int .i64 p.kinds, .int .i64 p.rules, .slice a.d p.dflt.length a.kd, .slice a.b p.base.length a.kb, .slice a.c p.check.length a.kc, .slice a.e p.cell.length a.ke, .slice a.gb p.gbase.length a.kgb, .slice a.gc p.gcheck.length a.kgc, .slice a.ge p.gcell.length a.kge]] _ := H25.pm (by repeat constructor)
    refine wl_nil (tn ⟨fun _ => HS26, ?_⟩)
    refine wj_vg (k := 18) rfl (by kernel_rfl) (fun _ _ _ h => h) rfl rfl g30 HS26 rfl (fun W HW => v_eql rfl rfl) ?_
    refine wj_v (k := 19) rfl (by kernel_rfl) (fun _ _ _ h => h) HS26 rfl rfl rfl (fun W HW => v_pick_t rfl g30 rfl) ?_
    refine wj_v (k := 20) rfl (by kernel_rfl) (fun _ _ _ h => h) HS26 rfl rfl rfl (fun W HW => v_move rfl) ?_
    refine wj_guard (dj := 41) rfl (fun g41 => ?_) (fun g41 => ?_)
    · have g41p := of_decide_eq_true g41
      refine wj_vg (k := 21) rfl (by kernel_rfl) (fun _ _ _ h => h) rfl rfl g41 HS26 rfl (fun W HW => v_loadN agg25 rfl rfl (HW.ats (by repeat constructor))) ?_
      refine wj_vg (k := 22) rfl (by kernel_rfl) (fun _ _ _ h => h) rfl rfl g41 HS26 rfl (fun W HW => v_loadN agg25 rfl rfl (HW.ats (by repeat constructor))) ?_
      refine wj_t (k := 23) rfl (by kernel_rfl) ?_
      refine wl_on' rfl rfl g41 ?_
      refine wl_call en14 rfl rfl (same_calls ⟨H25.rrR (f := fMv) (e := 38) (e2 := 48) (A := A1) (xss := (upAns p).mv) (by repeat constructor), H25.rrR (f := fInt .i64) (e := 39) (e2 := 3) (A := A2) (xss := (upAns p).go) (by repeat constructor)⟩ ⟨H25.rrR (f := fMv) (e := 38) (e2 := 48) (A := A3) (xss := (upAns p).mv) (by repeat constructor), H25.rrR (f := fInt .i64) (e := 39) (e2 := 3) (A := A4) (xss := (upAns p).go) (by repeat constructor)⟩ hu hu) ?_
      rintro _ w27 ⟨rfl, Hc⟩
      have H28 := H25.call Hc
      have HS29 : Holds w [Blk b9 25 [.slice A3 (upAns p).mv.length c3, .slice A4 (upAns p).go.length c4], RR fMv 38 48 (.slice A3 (upAns p).mv.length c3) (upAns p).mv, RR (fInt .i64) 39 3 (.slice A4 (upAns p).go.length c4) (upAns p).go, Blk b7 25 [.slice A1 (upAns p).mv.length c1, .slice A2 (upAns p).go.length c2], RR fMv 38 48 (.slice A1 (upAns p).mv.length c1) (upAns p).mv, RR (fInt .i64) 39 3 (.slice A2 (upAns p).go.length c2) (upAns p).go, Blk b3 41 [.int .i64 p.kinds, .int .i64 p.rules, .slice a.d p.dflt.length a.kd, .slice a.b p.base.length a.kb, .slice a.c p.check.length a.kc, .slice a.e p.cell.length a.ke, .slice a.gb p.gbase.length a.kgb, .slice a.gc p.gcheck.length a.kgc, .slice a.ge p.gcell.length a.kge]] _ := H28.pm (by repeat constructor)
      refine wl_nil (tn ⟨fun _ => HS29, ?_⟩)
      refine wj_v (k := 24) rfl (by kernel_rfl) (fun _ _ _ h => h) HS29 rfl rfl rfl (fun W HW => v_pick_t rfl g41 rfl) ?_
      refine wj_v (k := 25) rfl (by kernel_rfl) (fun _ _ _ h => h) HS29 rfl rfl rfl (fun W HW => v_move rfl) ?_
      refine wj_guard (dj := 46) rfl (fun g46 => ?_) (fun g46 => ?_)
      · have g46p := of_decide_eq_true g46
        refine wj_vg (k := 26) rfl (by kernel_rfl) (fun _ _ _ h => h) rfl rfl g46 HS29 rfl (fun W HW => v_move rfl) ?_
        refine wj_vg (k := 27) rfl (by kernel_rfl) (fun _ _ _ h => h) rfl rfl g46 HS29 rfl (fun W HW => v_move rfl) ?_
        refine wj_vg (k := 28) rfl (by kernel_rfl) (fun _ _ _ h => h) rfl rfl g46 HS29 rfl (fun W HW => v_eql rfl rfl) ?_
        refine wj_v (k := 29) rfl (by kernel_rfl) (fun _ _ _ h => h) HS29 rfl rfl rfl (fun W HW => v_pick_t rfl g46 rfl) ?_
        refine wj_v (k := 30) rfl (by kernel_rfl) (fun _ _ _ h => h) HS29 rfl rfl rfl (fun W HW => v_move rfl) ?_
        refine wj_guard (dj := 51) rfl (fun g51 => ?_) (fun g51 => ?_)
        · have g51p := of_decide_eq_true g51
          refine wj_t (k := 31) rfl (by kernel_rfl) ?_
          refine wl_on' rfl rfl g51 ?_
          refine wl_call en15 rfl rfl (alive_calls) ?_
          rintro _ w30 ⟨rfl, Hc⟩
          have H31 := H28.call Hc
          have HS32 : Holds w [Blk b9 25 [.slice A3 (upAns p).mv.length c3, .slice A4 (upAns p).go.length c4], RR fMv 38 48 (.slice A3 (upAns p).mv.length c3) (upAns p).mv, RR (fInt .i64) 39 3 (.slice A4 (upAns p).go.length c4) (upAns p).go, Blk b7 25 [.slice A1 (upAns p).mv.length c1, .slice A2 (upAns p).go.length c2], RR fMv 38 48 (.slice A1 (upAns p).mv.length c1) (upAns p).mv, RR (fInt .i64) 39 3 (.slice A2 (upAns p).go.length c2) (upAns p).go, Blk b3 41 [.int .i64 p.kinds, .int .i64 p.rules, .slice a.d p.dflt.length a.kd, .slice a.b p.base.length a.kb, .slice a.c p.check.length a.kc, .slice a.e p.cell.length a.ke, .slice a.gb p.gbase.length a.kgb, .slice a.gc p.gcheck.length a.kgc, .slice a.ge p.gcell.length a.kge]] _ := H31.pm (by repeat constructor)
          refine wl_nil (tn ⟨fun _ => HS32, ?_⟩)
          refine wj_v (k := 32) rfl (by kernel_rfl) (fun _ _ _ h => h) HS32 rfl rfl rfl (fun W HW => v_pick_t rfl g51 rfl) ?_
          refine wj_v (k := 33) rfl (by kernel_rfl) (fun _ _ _ h => h) HS32 rfl rfl rfl (fun W HW => v_assign rfl) ?_
          refine wj_done (by kernel_rfl) ?_
          refine wc_ret ?_
          exact ⟨_, res1 rfl rfl, rfl, H31.pm (Pm.nil _)⟩
        · have g51p := of_decide_eq_false g51
          exact absurd rfl g51p
      · have g46p := of_decide_eq_false g46
        exact absurd rfl g46p
    · have g41p := of_decide_eq_false g41
      exact absurd rfl g41p
  · have g30p := of_decide_eq_false g30
    exact absurd rfl g30p
end Go.Proofs.Ytkpehkadammppaa.TLooks
