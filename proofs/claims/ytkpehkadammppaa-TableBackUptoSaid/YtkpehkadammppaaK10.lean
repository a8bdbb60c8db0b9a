/- Tables with their defaults, as the two make them. -/
import Derived.Test.YtkpehkadammppaaProg
import Derived.Test.YtkpehkadammppaaK02
import Derived.Test.YtkpehkadammppaaK07
import Derived.Test.YtkpehkadammppaaK04
import Derived.Test.YtkpehkadammppaaK09
set_option linter.unusedVariables false
set_option linter.unusedSimpArgs false
/-! Tables with their defaults, as the two make them. -/
namespace Go.Proofs.Ytkpehkadammppaa.DfltW
open Go Go.RowKit Go.Proofs.YtkpehkadammppaaFx Go.Proofs.Ytkpehkadammppaa.TabB Go.Proofs.Ytkpehkadammppaa.UsualW Go.Proofs.Ytkpehkadammppaa.RUsualW
theorem agg25 : Agg Try.prog 25 2 := agg_of Try.underlying25 (by kernel_rfl)
theorem agg48 : Agg Try.prog 48 2 := agg_of Try.underlying48 (by kernel_rfl)
theorem ba25 : BuildAt Try.prog 25 [.slice none 0 0, .slice none 0 0] [(0, 1), (1, 1)] := build_at Try.underlying25 (by kernel_rfl) (by kernel_rfl)
theorem en32 : Enters Try.prog 32 := enters Try.func32 (by kernel_rfl) rfl
theorem en33 : Enters Try.prog 33 := enters Try.func33 (by kernel_rfl) rfl
theorem en34 : Enters Try.prog 34 := enters Try.func34 (by kernel_rfl) rfl
theorem en35 : Enters Try.prog 35 := enters Try.func35 (by kernel_rfl) rfl
theorem fa25_0 : FieldAt Try.prog 25 0 0 := field_at (sz := 0) Try.underlying25 rfl (by kernel_rfl) rfl
theorem fa25_1 : FieldAt Try.prog 25 1 1 := field_at (sz := 0) Try.underlying25 rfl (by kernel_rfl) rfl
theorem fa48_0 : FieldAt Try.prog 48 0 0 := field_at (sz := 0) Try.underlying48 rfl (by kernel_rfl) rfl
theorem info3 : (Try.prog.info? 3).map (fun i => (i.zero, i.size, i.bytes)) = some (some (.int .i64 0), 1, 8) := by kernel_rfl
theorem info38 : (Try.prog.info? 38).map (fun i => (i.zero, i.size, i.bytes)) = some (some (.slice none 0 0), 1, 24) := by kernel_rfl
theorem info39 : (Try.prog.info? 39).map (fun i => (i.zero, i.size, i.bytes)) = some (some (.slice none 0 0), 1, 24) := by kernel_rfl
theorem info48 : (Try.prog.info? 48).map (fun i => (i.zero, i.size, i.bytes)) = some (some (.agg #[.int .i64 0, .int .i64 0]), 2, 16) := by kernel_rfl
theorem mixed : Try.prog.follows .mixedOrders = true := by kernel_rfl
theorem one22 : One Try.prog 22 := one_of Try.underlying22 rfl (by kernel_rfl)
theorem one23 : One Try.prog 23 := one_of Try.underlying23 rfl (by kernel_rfl)
theorem one3 : One Try.prog 3 := one_of Try.underlying3 rfl (by kernel_rfl)
theorem one38 : One Try.prog 38 := one_of Try.underlying38 rfl (by kernel_rfl)
theorem one39 : One Try.prog 39 := one_of Try.underlying39 rfl (by kernel_rfl)
theorem sz22 : ∀ W, (sizeOf 22).run Try.prog W = .ok 1 W := size_of (by kernel_rfl)
theorem sz23 : ∀ W, (sizeOf 23).run Try.prog W = .ok 1 W := size_of (by kernel_rfl)
theorem sz25 : ∀ W, (sizeOf 25).run Try.prog W = .ok 2 W := size_of (by kernel_rfl)
theorem sz38 : ∀ W, (sizeOf 38).run Try.prog W = .ok 1 W := size_of (by kernel_rfl)
theorem sz39 : ∀ W, (sizeOf 39).run Try.prog W = .ok 1 W := size_of (by kernel_rfl)
theorem sz48 : ∀ W, (sizeOf 48).run Try.prog W = .ok 2 W := size_of (by kernel_rfl)
theorem zv25 : ∀ W, (zeroValue 25).run Try.prog W = .ok (.agg #[.slice none 0 0, .slice none 0 0]) W := zero_of (by kernel_rfl)
theorem zv38 : ∀ W, (zeroValue 38).run Try.prog W = .ok (.slice none 0 0) W := zero_of (by kernel_rfl)
theorem zv39 : ∀ W, (zeroValue 39).run Try.prog W = .ok (.slice none 0 0) W := zero_of (by kernel_rfl)
theorem zv48 : ∀ W, (zeroValue 48).run Try.prog W = .ok (.agg #[.int .i64 0, .int .i64 0]) W := zero_of (by kernel_rfl)

set_option maxRecDepth 100000 in
theorem rdefaults_calls {A B : Option Addr} {ca cb : Nat} {t : Tb} {w : World} (hx : t.rd w A B) (hk : t.ok) :
    Calls Try.prog 11 #[t.val A B ca cb] w fun e w' => ∃ v, e = .returned v ∧ ∃ v1 v2, v = .tuple #[.agg #[v1, v2], .int .i64 (dfErr t)] ∧ Holds w (OwnT v1 v2 (dfAns t)) w' := by
  have hM := hx.m
  have hG := hx.g
  have q1 := hk.m'
  have q2 := hk.g'
  refine calls_of Try.func11 rfl Try.ntmps11 rfl ?_
  have H := Holds.start w
  refine wc_seq ?_
  refine wc_region ?_
  refine wl_box (cs := [_, _]) H rfl rfl rfl ?_
  intro b1 w1 hb1 H2
  refine wl_alloc (cs := [.slice none 0 0, .slice none 0 0]) H2 rfl zv25 rfl ?_
  intro b2 w3 hb2 H4
  refine wl_v rfl rfl rfl (v_assign rfl) ?_
  refine wl_nil ?_
  refine wc_seq ?_
  refine wc_seq ?_
  refine wc_region ?_
  refine wl_v rfl rfl rfl (v_loadN agg25 rfl rfl (H4.ats (by repeat constructor))) ?_
  refine wl_call en34 rfl rfl (rows_calls (hx.below H4.old) hk) ?_
  rintro _ w5 ⟨rfl, Hc⟩
  have H6 := H4.call Hc
  refine wl_v rfl rfl rfl (v_not rfl) ?_
  refine wl_nil ?_
  refine wc_cond rfl (fun c0 => ?_) (fun c0 => ?_)
  · have c0p := of_n_t c0
    refine wc_seq ?_
    refine wc_region ?_
    refine wl_v rfl rfl rfl (v_bld ba25 rfl (by repeat constructor)) ?_
    refine wl_store (vs := [_, _]) H6 (by repeat constructor) sz25 rfl rfl rfl rfl rfl (by repeat constructor) ?_
    intro w7 H8 hw7
    refine wl_v rfl rfl rfl (v_assign rfl) ?_
    refine wl_nil ?_
    refine wc_ret ?_
    first
      | exact ⟨_, resc2 rfl rfl (run_loadVarN agg25 rfl (H8.ats (by repeat constructor))) rfl, _, _, by rw [(dfAns_t c0p).2], by rw [(dfAns_t c0p).1]; exact H8.pm (by repeat constructor)⟩
      | exact ⟨_, resc2 rfl rfl (run_loadVarN agg25 rfl (H8.ats (by repeat constructor))) rfl, _, _, by rw [(dfAns_f c0p).2], by rw [(dfAns_f c0p).1]; exact ((H8.rrNil fMv 38 48).rrNil (fInt .i64) 39 3).pm (by repeat constructor)⟩
  · have c0p := of_n_f c0
    have hrect := of_dec c0p
    refine wc_skip ?_
    refine wc_seq ?_
    refine wc_region ?_
    refine wl_alloc (cs := [.slice none 0 0, .slice none 0 0]) H6 rfl zv25 rfl ?_
    intro b4 w9 hb4 H10
    refine wl_nil ?_
    refine wc_seq ?_
    refine wc_seq ?_
    refine wc_region ?_
    refine wl_v rfl rfl rfl (v_assign rfl) ?_
    refine wl_nil ?_
    refine wc_block ?_
    refine wc_loop (σ := Nat) (fun s => [(1, .pointer (some ⟨b1, 0, none⟩)), (2, .pointer (some ⟨b2, 0, none⟩)), (4, .pointer (some ⟨b4, 0, none⟩)), (5, .int .i64 s)]) (fun s W => s ≤ t.mv.length ∧ ∃ v1 v2, Holds w [RR fMv 38 48 v1 ((t.mv.take s).map dfRow), RR (fInt .i64) 39 3 v2 (t.go.take s), Blk b4 25 [v1, v2], Blk b2 25 [.slice none 0 0, .slice none 0 0], Blk b1 25 [.slice A t.mv.length ca, .slice B t.go.length cb]] W) (fun s => t.mv.length - s) 0 (sc rfl (sc rfl (sc rfl (sc rfl (sn _))))) ⟨Nat.zero_le _, _, _, ((H10.rrNil fMv 38 48).rrNil (fInt .i64) 39 3).pm (by repeat constructor)⟩ ?_
    rintro i W0 ⟨hi, v1, v2, H⟩
    refine wc_seq ?_
    refine wc_seq ?_
    refine wc_region ?_
    refine wl_v rfl rfl rfl (v_move rfl) ?_
    refine wl_v rfl rfl rfl (v_fb (o2 := 0) fa25_0 rfl rfl) ?_
    refine wl_v rfl rfl rfl (v_load one22 rfl (H.at (by repeat constructor) rfl)) ?_
    refine wl_v rfl rfl rfl (v_len Try.underlying22 rfl) ?_
    refine wl_v rfl rfl rfl (v_lss rfl rfl) ?_
    refine wl_nil ?_
    refine wc_cond rfl (fun c1 => ?_) (fun c1 => ?_)
    · have c1p := of_decide_eq_true c1
      have r1 := hk.ml (i := i) (by omega)
      have r2 := hk.gl (i := i) (by have := hrect.2.2.1; omega)
      have r3 := hrect.2.2.1
      refine wc_skip ?_
      refine wc_seq ?_
      refine wc_block ?_
      refine wc_seq ?_
      refine wc_region ?_
      refine wl_v rfl rfl rfl (v_fb (o2 := 0) fa25_0 rfl rfl) ?_
      refine wl_v rfl rfl rfl (v_load one22 rfl (H.at (by repeat constructor) rfl)) ?_
      refine wl_v rfl rfl rfl (v_move rfl) ?_
      refine wl_v rfl rfl rfl (v_idx Try.underlying22 sz38 hM.ad rfl rfl (by omega) (by omega)) ?_
      obtain ⟨B24, cp24, hc24, hl24, hr24⟩ := hM.atSlN (i := i) (by omega)
      refine wl_v rfl rfl rfl (v_load one38 rfl (H.cell (hc24))) ?_
      refine wl_copy (f := fMv) (e := 48) H rfl Try.underlying38 info48 rfl (by decide) rfl rfl (hr24.below H.old) (by omega) (by decide) ?_
      intro A9 c9 w11 H11 hs11
      refine wl_v rfl rfl rfl (v_assign rfl) ?_
      refine wl_nil ?_
      refine wc_seq ?_
      refine wc_region ?_
      refine wl_v rfl rfl rfl (v_move rfl) ?_
      refine wl_call en35 rfl rfl (rusual_calls (H11.rrd (by repeat constructor)) (by omega)) ?_
      rintro _ w12 ⟨rfl, Hc⟩
      have H13 := H11.call Hc
      refine wl_alloc (cs := [.int .i64 0, .int .i64 0]) H13 rfl zv48 rfl ?_
      intro b7 w14 hb7 H15
      refine wl_store (vs := [_, _]) H15 (by repeat constructor) sz48 rfl rfl rfl rfl rfl (by repeat constructor) ?_
      intro w16 H17 hw16
      refine wl_nil ?_
      refine wc_seq ?_
      refine wc_seq ?_
      refine wc_region ?_
      refine wl_v rfl rfl rfl (v_assign rfl) ?_
      refine wl_nil ?_
      refine wc_block ?_
      refine wc_loop (σ := Nat) (fun s => [(1, .pointer (some ⟨b1, 0, none⟩)), (2, .pointer (some ⟨b2, 0, none⟩)), (4, .pointer (some ⟨b4, 0, none⟩)), (5, .int .i64 i), (6, .slice A9 (t.mv.getD i []).length c9), (7, .pointer (some ⟨b7, 0, none⟩)), (8, .int .i64 s)]) (fun s W => s ≤ (t.mv.getD i []).length ∧ Holds w [Blk b7 48 [.int .i64 (usualF (t.mv.getD i [])).d, .int .i64 (usualF (t.mv.getD i [])).n], Row fMv 48 (.slice A9 (t.mv.getD i []).length c9) (dfUpto (t.mv.getD i []) s), RR fMv 38 48 v1 ((t.mv.take i).map dfRow), RR (fInt .i64) 39 3 v2 (t.go.take i), Blk b4 25 [v1, v2], Blk b2 25 [.slice none 0 0, .slice none 0 0], Blk b1 25 [.slice A t.mv.length ca, .slice B t.go.length cb]] W) (fun s => (t.mv.getD i []).length - s) 0 (sc rfl (sc rfl (sc rfl (sc rfl (sc rfl (sc rfl (sc rfl (sn _)))))))) ⟨Nat.zero_le _, H17.pm (by repeat constructor)⟩ ?_
      rintro j W1 ⟨hj, H⟩
      refine wc_seq ?_
      refine wc_seq ?_
      refine wc_region ?_
      refine wl_v rfl rfl rfl (v_move rfl) ?_
      refine wl_v rfl rfl rfl (v_move rfl) ?_
      refine wl_v rfl rfl rfl (v_len Try.underlying38 rfl) ?_
      refine wl_v rfl rfl rfl (v_lss rfl rfl) ?_
      refine wl_nil ?_
      refine wc_cond rfl (fun c2 => ?_) (fun c2 => ?_)
      · have c2p := of_decide_eq_true c2
        have hjl : j < (t.mv.getD i []).length := by omega
        have hdl := dfUpto_len (t.mv.getD i []) j
        have hrow := H.rrd (f := fMv) (e := 48) (A := A9) (xs := dfUpto (t.mv.getD i []) j) (by repeat constructor)
        have hrad : 0 < (t.mv.getD i []).length → A9 = some (adr A9) := fun h => hrow.ad (by omega)
        refine wc_skip ?_
        refine wc_seq ?_
        refine wc_block ?_
        refine wc_seq ?_
        refine wc_region ?_
        refine wl_v rfl rfl rfl (v_move rfl) ?_
        refine wl_v rfl rfl rfl (v_move rfl) ?_
        refine wl_v rfl rfl rfl (v_idx Try.underlying38 sz48 hrad rfl rfl (by omega) (by omega)) ?_
        refine wl_v rfl rfl rfl (v_fp fa48_0 rfl) ?_
        refine wl_v rfl rfl rfl (v_load one3 rfl (hrow.atN (i := j) (k := 0) mv0 (by omega) rfl)) ?_
        refine wl_v rfl rfl rfl (v_eql rfl rfl) ?_
        refine wl_nil ?_
        refine wc_cond rfl (fun c3 => ?_) (fun c3 => ?_)
        · have c3p := of_decide_eq_true c3
          refine wc_region ?_
          refine wl_v rfl rfl rfl (v_move rfl) ?_
          refine wl_v rfl rfl rfl (v_move rfl) ?_
          refine wl_v rfl rfl rfl (v_loadN agg48 rfl rfl (H.ats (by repeat constructor))) ?_
          refine wl_v rfl rfl rfl (v_idx Try.underlying38 sz48 hrad rfl rfl (by omega) (by omega)) ?_
          refine wl_storeR (f := fMv) (xs := dfUpto (t.mv.getD i []) j) (i := (j : Int)) (x' := usualF (t.mv.getD i [])) H (by repeat constructor) sz48 rfl rfl rfl (by omega) (by omega) ?_
          intro w18 H18
          refine wl_nil ?_
          refine wc_region ?_
          refine wl_v rfl rfl rfl (v_move rfl) ?_
          refine wl_v rfl rfl rfl (v_addi rfl rfl (by omega)) ?_
          refine wl_v rfl rfl rfl (v_assign rfl) ?_
          refine wl_nil ?_
          first
            | exact ⟨j + 1, (sc rfl (sc rfl (sc rfl (sc rfl (sc rfl (sc rfl (sc rfl (sn _)))))))), ⟨by omega, by rw [dfUpto_next hjl, dfm, if_pos (by first | exact c3p | (rw [← dfUpto_get hjl]; exact c3p))]; exact H18.pm (by repeat constructor)⟩, by omega⟩
            | exact ⟨j + 1, (sc rfl (sc rfl (sc rfl (sc rfl (sc rfl (sc rfl (sc rfl (sn _)))))))), ⟨by omega, by rw [dfUpto_keep hjl (by first | exact c3p | (rw [← dfUpto_get hjl]; exact c3p))]; exact H18.pm (by repeat constructor)⟩, by omega⟩
        · have c3p := of_decide_eq_false c3
          refine wc_skip ?_
          refine wc_region ?_
          refine wl_v rfl rfl rfl (v_move rfl) ?_
          refine wl_v rfl rfl rfl (v_addi rfl rfl (by omega)) ?_
          refine wl_v rfl rfl rfl (v_assign rfl) ?_
          refine wl_nil ?_
          first
            | exact ⟨j + 1, (sc rfl (sc rfl (sc rfl (sc rfl (sc rfl (sc rfl (sc rfl (sn _)))))))), ⟨by omega, by rw [dfUpto_next hjl, dfm, if_pos (by first | exact c3p | (rw [← dfUpto_get hjl]; exact c3p))]; exact H.pm (by repeat constructor)⟩, by omega⟩
            | exact ⟨j + 1, (sc rfl (sc rfl (sc rfl (sc rfl (sc rfl (sc rfl (sc rfl (sn _)))))))), ⟨by omega, by rw [dfUpto_keep hjl (by first | exact c3p | (rw [← dfUpto_get hjl]; exact c3p))]; exact H.pm (by repeat constructor)⟩, by omega⟩
      · have c2p := of_decide_eq_false c2
        rw [dfUpto_all c2p] at H
        refine wc_exit ?_
        refine wc_seq ?_
        refine wc_region ?_
        refine wl_v rfl rfl rfl (v_fb (o2 := 0) fa25_0 rfl rfl) ?_
        refine wl_v rfl rfl rfl (v_load one22 rfl (H.at (by repeat constructor) rfl)) ?_
        refine wl_v rfl rfl rfl (v_move rfl) ?_
        refine wl_slit (v := .slice none 0 0) (z := [.slice none 0 0]) (cs := [.slice A9 (t.mv.getD i []).length c9]) (sz := 1) H rfl Try.underlying22 sz38 zv38 (by decide) (by decide) (by kernel_rfl) rfl (by repeat constructor) ?_
        intro b47 w19 hb47 H19 hs19
        refine wl_appRR (f := fMv) (e := 38) (e2 := 48) (u := .slice A9 (t.mv.getD i []).length c9) (xs := dfRow (t.mv.getD i [])) (xss := (t.mv.take i).map dfRow) H19 (by repeat constructor) (by repeat constructor) (H19.at (by repeat constructor) rfl) rfl Try.underlying22 info38 rfl rfl rfl (by simp only [List.length_map, List.length_take]; omega) (by decide) ?_
        intro A48 c48 w20 H20 hs20
        refine wl_v rfl rfl rfl (v_fb (o2 := 0) fa25_0 rfl rfl) ?_
        refine wl_store (vs := [_]) H20 (by repeat constructor) sz22 rfl rfl rfl rfl rfl (by repeat constructor) ?_
        intro w21 H22 hw21
        refine wl_nil ?_
        refine wc_held 7 10 (fun W => Holds w [Blk b4 25 [.slice A48 ((t.mv.take i).map dfRow ++ [dfRow (t.mv.getD i [])]).length c48, v2], Blk b1 25 [.slice A t.mv.length ca, .slice B t.go.length cb]] W) mixed (by kernel_rfl) (fun _ _ _ h => h) ?_
        have Hd := H22.drew
        refine wh_v rfl (Hd.pm (by repeat constructor)) rfl rfl rfl (fun W HW => v_fb (o2 := 1) fa25_1 rfl rfl) ?_
        refine wh_v rfl (Hd.pm (by repeat constructor)) rfl rfl rfl (fun W HW => v_load one23 rfl (HW.at (by repeat constructor) rfl)) ?_
        refine wh_v rfl (Hd.pm (by repeat constructor)) rfl rfl rfl (fun W HW => v_fb (o2 := 1) fa25_1 rfl rfl) ?_
        refine wh_v rfl (Hd.pm (by repeat constructor)) rfl rfl rfl (fun W HW => v_load one23 rfl (HW.at (by repeat constructor) rfl)) ?_
        refine wh_v rfl (Hd.pm (by repeat constructor)) rfl rfl rfl (fun W HW => v_move rfl) ?_
        refine wh_v rfl (Hd.pm (by repeat constructor)) rfl rfl rfl (fun W HW => v_idx Try.underlying23 sz39 hG.ad rfl rfl (by omega) (by omega)) ?_
        obtain ⟨B56, cp56, hc56, hl56, hr56⟩ := hG.atSlN (i := i) (by omega)
        refine wh_v rfl (Hd.pm (by repeat constructor)) rfl rfl rfl (fun W HW => v_load one39 rfl (HW.cell (hc56))) ?_
        refine wh_t rfl ?_
        refine wl_copy (f := fInt .i64) (e := 3) Hd rfl Try.underlying39 info3 rfl (by decide) rfl rfl (hr56.below Hd.old) (by omega) (by decide) ?_
        intro A57 c57 w23 H23 hs23
        refine wl_nil (tn ⟨fun hlt => H23.pm (by repeat constructor), ?_⟩)
        refine wh_t rfl ?_
        refine wl_slit (v := .slice none 0 0) (z := [.slice none 0 0]) (cs := [.slice A57 (t.go.getD i []).length c57]) (sz := 1) H23 rfl Try.underlying23 sz39 zv39 (by decide) (by decide) (by kernel_rfl) rfl (by repeat constructor) ?_
        intro b58 w24 hb58 H24 hs24
        refine wl_nil (tn ⟨fun hlt => H24.pm (by repeat constructor), ?_⟩)
        refine wh_t rfl ?_
        refine wl_appRR (f := fInt .i64) (e := 39) (e2 := 3) (u := .slice A57 (t.go.getD i []).length c57) (xs := t.go.getD i []) (xss := t.go.take i) H24 (by repeat constructor) (by repeat constructor) (H24.at (by repeat constructor) rfl) rfl Try.underlying23 info39 rfl rfl rfl (by simp only [List.length_take]; omega) (by decide) ?_
        intro A59 c59 w25 H25 hs25
        refine wl_nil (tn ⟨fun hlt => H25.pm (by repeat constructor), ?_⟩)
        refine wh_t rfl ?_
        refine wl_v rfl rfl rfl (v_fb (o2 := 1) fa25_1 rfl rfl) ?_
        refine wl_nil (tn ⟨fun hlt => absurd hlt (by decide), ?_⟩)
        refine wh_t rfl ?_
        refine wl_store (vs := [_]) H25 (by repeat constructor) sz23 rfl rfl rfl rfl rfl (by repeat constructor) ?_
        intro w26 H27 hw26
        refine wl_nil (tn ⟨fun hlt => absurd hlt (by decide), ?_⟩)
        refine wh_nil ?_
        refine wc_region ?_
        refine wl_v rfl rfl rfl (v_move rfl) ?_
        refine wl_v rfl rfl rfl (v_addi rfl rfl (by omega)) ?_
        refine wl_v rfl rfl rfl (v_assign rfl) ?_
        refine wl_nil ?_
        have e1 := map_take_succ (xs := t.mv) [] dfRow (i := i) (by omega)
        have e2 := take_succ' (xs := t.go) [] (i := i) (by omega)
        rw [← e1, ← e2] at H27
        exact ⟨i + 1, (sc rfl (sc rfl (sc rfl (sc rfl (sn _))))), ⟨by omega, _, _, H27.pm (by repeat constructor)⟩, by omega⟩
    · have c1p := of_decide_eq_false c1
      have r3 := hrect.2.2.1
      rw [take_all c1p, take_all (xs := t.go) (by omega)] at H
      obtain ⟨A1, k1, rfl, _⟩ := H.rr (f := fMv) (e := 38) (e2 := 48) (v := v1) (xss := t.mv.map dfRow) (by repeat constructor)
      obtain ⟨A2, k2, rfl, _⟩ := H.rr (f := fInt .i64) (e := 39) (e2 := 3) (v := v2) (xss := t.go) (by repeat constructor)
      refine wc_exit ?_
      refine wc_seq ?_
      refine wc_region ?_
      refine wl_v rfl rfl rfl (v_loadN agg25 rfl rfl (H.ats (by repeat constructor))) ?_
      refine wl_store (vs := [_, _]) H (by repeat constructor) sz25 rfl rfl rfl rfl rfl (by repeat constructor) ?_
      intro w28 H29 hw28
      refine wl_v rfl rfl rfl (v_assign rfl) ?_
      refine wl_nil ?_
      refine wc_ret ?_
      first
        | exact ⟨_, resc2 rfl rfl (run_loadVarN agg25 rfl (H29.ats (by repeat constructor))) rfl, _, _, by rw [(dfAns_t c0p).2], by rw [(dfAns_t c0p).1]; exact H29.pm (by repeat constructor)⟩
        | exact ⟨_, resc2 rfl rfl (run_loadVarN agg25 rfl (H29.ats (by repeat constructor))) rfl, _, _, by rw [(dfAns_f c0p).2], by rw [(dfAns_f c0p).1]; exact ((H29.rrNil fMv 38 48).rrNil (fInt .i64) 39 3).pm (by repeat constructor)⟩

set_option maxRecDepth 100000 in
theorem defaults_calls {A B : Option Addr} {ca cb : Nat} {t : Tb} {w : World} (hx : t.rd w A B) (hk : t.ok) :
    Calls Try.prog 10 #[t.val A B ca cb] w fun e w' => ∃ v, e = .returned v ∧ ∃ v1 v2, v = .tuple #[.agg #[v1, v2], .int .i64 (dfErr t)] ∧ Holds w (OwnT v1 v2 (dfAns t)) w' := by
  have hM := hx.m
  have hG := hx.g
  have q1 := hk.m'
  have q2 := hk.g'
  refine calls_of Try.func10 rfl Try.ntmps10 rfl ?_
  have H := Holds.start w
  refine wc_seq ?_
  refine wc_region ?_
  refine wl_box (cs := [_, _]) H rfl rfl rfl ?_
  intro b1 w1 hb1 H2
  refine wl_alloc (cs := [.slice none 0 0, .slice none 0 0]) H2 rfl zv25 rfl ?_
  intro b2 w3 hb2 H4
  refine wl_v rfl rfl rfl (v_assign rfl) ?_
  refine wl_nil ?_
  refine wc_seq ?_
  refine wc_seq ?_
  refine wc_region ?_
  refine wl_v rfl rfl rfl (v_loadN agg25 rfl rfl (H4.ats (by repeat constructor))) ?_
  refine wl_call en32 rfl rfl (even_calls (hx.below H4.old) hk) ?_
  rintro _ w5 ⟨rfl, Hc⟩
  have H6 := H4.call Hc
  refine wl_v rfl rfl rfl (v_not rfl) ?_
  refine wl_nil ?_
  refine wc_cond rfl (fun c0 => ?_) (fun c0 => ?_)
  · have c0p := of_n_t c0
    refine wc_seq ?_
    refine wc_region ?_
    refine wl_v rfl rfl rfl (v_bld ba25 rfl (by repeat constructor)) ?_
    refine wl_store (vs := [_, _]) H6 (by repeat constructor) sz25 rfl rfl rfl rfl rfl (by repeat constructor) ?_
    intro w7 H8 hw7
    refine wl_v rfl rfl rfl (v_assign rfl) ?_
    refine wl_nil ?_
    refine wc_ret ?_
    first
      | exact ⟨_, resc2 rfl rfl (run_loadVarN agg25 rfl (H8.ats (by repeat constructor))) rfl, _, _, by rw [(dfAns_t c0p).2], by rw [(dfAns_t c0p).1]; exact H8.pm (by repeat constructor)⟩
      | exact ⟨_, resc2 rfl rfl (run_loadVarN agg25 rfl (H8.ats (by repeat constructor))) rfl, _, _, by rw [(dfAns_f c0p).2], by rw [(dfAns_f c0p).1]; exact ((H8.rrNil fMv 38 48).rrNil (fInt .i64) 39 3).pm (by repeat constructor)⟩
  · have c0p := of_n_f c0
    have hrect := of_dec c0p
    refine wc_skip ?_
    refine wc_seq ?_
    refine wc_region ?_
    refine wl_v rfl rfl rfl (v_bld ba25 rfl (by repeat constructor)) ?_
    refine wl_alloc (cs := [.slice none 0 0, .slice none 0 0]) H6 rfl zv25 rfl ?_
    intro b4 w9 hb4 H10
    refine wl_store (vs := [_, _]) H10 (by repeat constructor) sz25 rfl rfl rfl rfl rfl (by repeat constructor) ?_
    intro w11 H12 hw11
    refine wl_nil ?_
    refine wc_seq ?_
    refine wc_seq ?_
    refine wc_region ?_
    refine wl_v rfl rfl rfl (v_fb (o2 := 0) fa25_0 rfl rfl) ?_
    refine wl_v rfl rfl rfl (v_load one22 rfl (H12.at (by repeat constructor) rfl)) ?_
    refine wl_v rfl rfl rfl (v_len Try.underlying22 rfl) ?_
    refine wl_v rfl rfl rfl (v_move rfl) ?_
    refine wl_nil ?_
    refine wc_block ?_
    refine wc_loop (σ := Nat) (fun s => [(1, .pointer (some ⟨b1, 0, none⟩)), (2, .pointer (some ⟨b2, 0, none⟩)), (4, .pointer (some ⟨b4, 0, none⟩)), (17, .slice A t.mv.length ca), (18, .int .i64 t.mv.length), (19, .int .i64 s)]) (fun s W => s ≤ t.mv.length ∧ ∃ v1 v2, Holds w [RR fMv 38 48 v1 ((t.mv.take s).map dfRow), RR (fInt .i64) 39 3 v2 (t.go.take s), Blk b4 25 [v1, v2], Blk b2 25 [.slice none 0 0, .slice none 0 0], Blk b1 25 [.slice A t.mv.length ca, .slice B t.go.length cb]] W) (fun s => t.mv.length - s) 0 (sc rfl (sc rfl (sc rfl (sc rfl (sc rfl (sc rfl (sn _))))))) ⟨Nat.zero_le _, _, _, ((H12.rrNil fMv 38 48).rrNil (fInt .i64) 39 3).pm (by repeat constructor)⟩ ?_
    rintro i W0 ⟨hi, v1, v2, H⟩
    refine wc_seq ?_
    refine wc_region ?_
    refine wl_v rfl rfl rfl (v_lss rfl rfl) ?_
    refine wl_nil ?_
    refine wc_seq ?_
    refine wc_cond rfl (fun c1 => ?_) (fun c1 => ?_)
    · have c1p := of_decide_eq_true c1
      have r1 := hk.ml (i := i) (by omega)
      have r2 := hk.gl (i := i) (by have := hrect.2.2.1; omega)
      have r3 := hrect.2.2.1
      refine wc_skip ?_
      refine wc_seq ?_
      refine wc_block ?_
      refine wc_seq ?_
      refine wc_region ?_
      refine wl_v rfl rfl rfl (v_move rfl) ?_
      refine wl_v rfl rfl rfl (v_idx Try.underlying22 sz38 hM.ad rfl rfl (by omega) (by omega)) ?_
      obtain ⟨B23, cp23, hc23, hl23, hr23⟩ := hM.atSlN (i := i) (by omega)
      refine wl_v rfl rfl rfl (v_load one38 rfl (H.cell (hc23))) ?_
      refine wl_v rfl rfl rfl (v_assign rfl) ?_
      refine wl_v rfl rfl rfl (v_assign rfl) ?_
      refine wl_nil ?_
      refine wc_seq ?_
      refine wc_region ?_
      refine wl_v rfl rfl rfl (v_move rfl) ?_
      refine wl_call en33 rfl rfl (usual_calls (hr23.below H.old) (by unfold maxLen; omega) (fun m hm => ((hk.mr _ (getD_mem (by omega))).2 m hm).2)) ?_
      rintro _ w13 ⟨rfl, Hc⟩
      have H14 := H.call Hc
      refine wl_alloc (cs := [.int .i64 0, .int .i64 0]) H14 rfl zv48 rfl ?_
      intro b7 w15 hb7 H16
      refine wl_store (vs := [_, _]) H16 (by repeat constructor) sz48 rfl rfl rfl rfl rfl (by repeat constructor) ?_
      intro w17 H18 hw17
      refine wl_nil ?_
      refine wc_seq ?_
      refine wc_region ?_
      refine wl_v rfl rfl rfl (v_move rfl) ?_
      refine wl_copy (f := fMv) (e := 48) H18 rfl Try.underlying38 info48 rfl (by decide) rfl rfl (hr23.below H18.old) (by omega) (by decide) ?_
      intro A9 c9 w19 H19 hs19
      refine wl_v rfl rfl rfl (v_assign rfl) ?_
      refine wl_nil ?_
      refine wc_seq ?_
      refine wc_seq ?_
      refine wc_region ?_
      refine wl_v rfl rfl rfl (v_move rfl) ?_
      refine wl_v rfl rfl rfl (v_len Try.underlying38 rfl) ?_
      refine wl_v rfl rfl rfl (v_move rfl) ?_
      refine wl_nil ?_
      refine wc_block ?_
      refine wc_loop (σ := Nat) (fun s => [(1, .pointer (some ⟨b1, 0, none⟩)), (2, .pointer (some ⟨b2, 0, none⟩)), (4, .pointer (some ⟨b4, 0, none⟩)), (5, .int .i64 i), (7, .pointer (some ⟨b7, 0, none⟩)), (8, .slice A9 (t.mv.getD i []).length c9), (17, .slice A t.mv.length ca), (18, .int .i64 t.mv.length), (19, .int .i64 i), (28, .slice A9 (t.mv.getD i []).length c9), (29, .int .i64 (t.mv.getD i []).length), (30, .int .i64 s)]) (fun s W => s ≤ (t.mv.getD i []).length ∧ Holds w [Blk b7 48 [.int .i64 (usualF (t.mv.getD i [])).d, .int .i64 (usualF (t.mv.getD i [])).n], Row fMv 48 (.slice A9 (t.mv.getD i []).length c9) (dfUpto (t.mv.getD i []) s), RR fMv 38 48 v1 ((t.mv.take i).map dfRow), RR (fInt .i64) 39 3 v2 (t.go.take i), Blk b4 25 [v1, v2], Blk b2 25 [.slice none 0 0, .slice none 0 0], Blk b1 25 [.slice A t.mv.length ca, .slice B t.go.length cb]] W) (fun s => (t.mv.getD i []).length - s) 0 (sc rfl (sc rfl (sc rfl (sc rfl (sc rfl (sc rfl (sc rfl (sc rfl (sc rfl (sc rfl (sc rfl (sc rfl (sn _))))))))))))) ⟨Nat.zero_le _, H19.pm (by repeat constructor)⟩ ?_
      rintro j W1 ⟨hj, H⟩
      refine wc_seq ?_
      refine wc_region ?_
      refine wl_v rfl rfl rfl (v_lss rfl rfl) ?_
      refine wl_nil ?_
      refine wc_seq ?_
      refine wc_cond rfl (fun c2 => ?_) (fun c2 => ?_)
      · have c2p := of_decide_eq_true c2
        have hjl : j < (t.mv.getD i []).length := by omega
        have hdl := dfUpto_len (t.mv.getD i []) j
        have hrow := H.rrd (f := fMv) (e := 48) (A := A9) (xs := dfUpto (t.mv.getD i []) j) (by repeat constructor)
        have hrad : 0 < (t.mv.getD i []).length → A9 = some (adr A9) := fun h => hrow.ad (by omega)
        refine wc_skip ?_
        refine wc_seq ?_
        refine wc_block ?_
        refine wc_seq ?_
        refine wc_region ?_
        refine wl_v rfl rfl rfl (v_move rfl) ?_
        refine wl_v rfl rfl rfl (v_idx Try.underlying38 sz48 hrad rfl rfl (by omega) (by omega)) ?_
        refine wl_v rfl rfl rfl (v_loadN (cs := fMv.enc _) agg48 rfl rfl (fun k u hu => hrow.atN (i := j) (k := k) mv0 (by omega) hu)) ?_
        refine wl_alloc (cs := [.int .i64 0, .int .i64 0]) H rfl zv48 rfl ?_
        intro b10 w20 hb10 H21
        refine wl_v rfl rfl rfl (v_assign rfl) ?_
        refine wl_store (vs := [_, _]) H21 (by repeat constructor) sz48 rfl rfl rfl rfl rfl (by repeat constructor) ?_
        intro w22 H23 hw22
        refine wl_nil ?_
        refine wc_seq ?_
        refine wc_region ?_
        refine wl_v rfl rfl rfl (v_fb (o2 := 0) fa48_0 rfl rfl) ?_
        refine wl_v rfl rfl rfl (v_load one3 rfl (H23.at (by repeat constructor) rfl)) ?_
        refine wl_v rfl rfl rfl (v_eql rfl rfl) ?_
        refine wl_nil ?_
        refine wc_cond rfl (fun c3 => ?_) (fun c3 => ?_)
        · have c3p := of_decide_eq_true c3
          refine wc_region ?_
          refine wl_v rfl rfl rfl (v_move rfl) ?_
          refine wl_v rfl rfl rfl (v_move rfl) ?_
          refine wl_v rfl rfl rfl (v_loadN agg48 rfl rfl (H23.ats (by repeat constructor))) ?_
          refine wl_v rfl rfl rfl (v_idx Try.underlying38 sz48 hrad rfl rfl (by omega) (by omega)) ?_
          refine wl_storeR (f := fMv) (xs := dfUpto (t.mv.getD i []) j) (i := (j : Int)) (x' := usualF (t.mv.getD i [])) H23 (by repeat constructor) sz48 rfl rfl rfl (by omega) (by omega) ?_
          intro w24 H24
          refine wl_nil ?_
          refine wc_region ?_
          refine wl_v rfl rfl rfl (v_addi rfl rfl (by omega)) ?_
          refine wl_v rfl rfl rfl (v_move rfl) ?_
          refine wl_nil ?_
          first
            | exact ⟨j + 1, (sc rfl (sc rfl (sc rfl (sc rfl (sc rfl (sc rfl (sc rfl (sc rfl (sc rfl (sc rfl (sc rfl (sc rfl (sn _))))))))))))), ⟨by omega, by rw [dfUpto_next hjl, dfm, if_pos (by first | exact c3p | (rw [← dfUpto_get hjl]; exact c3p))]; exact H24.pm (by repeat constructor)⟩, by omega⟩
            | exact ⟨j + 1, (sc rfl (sc rfl (sc rfl (sc rfl (sc rfl (sc rfl (sc rfl (sc rfl (sc rfl (sc rfl (sc rfl (sc rfl (sn _))))))))))))), ⟨by omega, by rw [dfUpto_keep hjl (by first | exact c3p | (rw [← dfUpto_get hjl]; exact c3p))]; exact H24.pm (by repeat constructor)⟩, by omega⟩
        · have c3p := of_decide_eq_false c3
          refine wc_skip ?_
          refine wc_region ?_
          refine wl_v rfl rfl rfl (v_addi rfl rfl (by omega)) ?_
          refine wl_v rfl rfl rfl (v_move rfl) ?_
          refine wl_nil ?_
          first
            | exact ⟨j + 1, (sc rfl (sc rfl (sc rfl (sc rfl (sc rfl (sc rfl (sc rfl (sc rfl (sc rfl (sc rfl (sc rfl (sc rfl (sn _))))))))))))), ⟨by omega, by rw [dfUpto_next hjl, dfm, if_pos (by first | exact c3p | (rw [← dfUpto_get hjl]; exact c3p))]; exact H23.pm (by repeat constructor)⟩, by omega⟩
            | exact ⟨j + 1, (sc rfl (sc rfl (sc rfl (sc rfl (sc rfl (sc rfl (sc rfl (sc rfl (sc rfl (sc rfl (sc rfl (sc rfl (sn _))))))))))))), ⟨by omega, by rw [dfUpto_keep hjl (by first | exact c3p | (rw [← dfUpto_get hjl]; exact c3p))]; exact H23.pm (by repeat constructor)⟩, by omega⟩
      · have c2p := of_decide_eq_false c2
        rw [dfUpto_all c2p] at H
        refine wc_exit ?_
        refine wc_seq ?_
        refine wc_region ?_
        refine wl_v rfl rfl rfl (v_fb (o2 := 0) fa25_0 rfl rfl) ?_
        refine wl_v rfl rfl rfl (v_load one22 rfl (H.at (by repeat constructor) rfl)) ?_
        refine wl_v rfl rfl rfl (v_move rfl) ?_
        refine wl_slit (v := .slice none 0 0) (z := [.slice none 0 0]) (cs := [.slice A9 (t.mv.getD i []).length c9]) (sz := 1) H rfl Try.underlying22 sz38 zv38 (by decide) (by decide) (by kernel_rfl) rfl (by repeat constructor) ?_
        intro b47 w25 hb47 H25 hs25
        refine wl_appRR (f := fMv) (e := 38) (e2 := 48) (u := .slice A9 (t.mv.getD i []).length c9) (xs := dfRow (t.mv.getD i [])) (xss := (t.mv.take i).map dfRow) H25 (by repeat constructor) (by repeat constructor) (H25.at (by repeat constructor) rfl) rfl Try.underlying22 info38 rfl rfl rfl (by simp only [List.length_map, List.length_take]; omega) (by decide) ?_
        intro A48 c48 w26 H26 hs26
        refine wl_v rfl rfl rfl (v_fb (o2 := 0) fa25_0 rfl rfl) ?_
        refine wl_store (vs := [_]) H26 (by repeat constructor) sz22 rfl rfl rfl rfl rfl (by repeat constructor) ?_
        intro w27 H28 hw27
        refine wl_nil ?_
        refine wc_held 7 10 (fun W => Holds w [Blk b4 25 [.slice A48 ((t.mv.take i).map dfRow ++ [dfRow (t.mv.getD i [])]).length c48, v2], Blk b1 25 [.slice A t.mv.length ca, .slice B t.go.length cb]] W) mixed (by kernel_rfl) (fun _ _ _ h => h) ?_
        have Hd := H28.drew
        refine wh_v rfl (Hd.pm (by repeat constructor)) rfl rfl rfl (fun W HW => v_fb (o2 := 1) fa25_1 rfl rfl) ?_
        refine wh_v rfl (Hd.pm (by repeat constructor)) rfl rfl rfl (fun W HW => v_load one23 rfl (HW.at (by repeat constructor) rfl)) ?_
        refine wh_v rfl (Hd.pm (by repeat constructor)) rfl rfl rfl (fun W HW => v_fb (o2 := 1) fa25_1 rfl rfl) ?_
        refine wh_v rfl (Hd.pm (by repeat constructor)) rfl rfl rfl (fun W HW => v_load one23 rfl (HW.at (by repeat constructor) rfl)) ?_
        refine wh_v rfl (Hd.pm (by repeat constructor)) rfl rfl rfl (fun W HW => v_move rfl) ?_
        refine wh_v rfl (Hd.pm (by repeat constructor)) rfl rfl rfl (fun W HW => v_idx Try.underlying23 sz39 hG.ad rfl rfl (by omega) (by omega)) ?_
        obtain ⟨B55, cp55, hc55, hl55, hr55⟩ := hG.atSlN (i := i) (by omega)
        refine wh_v rfl (Hd.pm (by repeat constructor)) rfl rfl rfl (fun W HW => v_load one39 rfl (HW.cell (hc55))) ?_
        refine wh_t rfl ?_
        refine wl_copy (f := fInt .i64) (e := 3) Hd rfl Try.underlying39 info3 rfl (by decide) rfl rfl (hr55.below Hd.old) (by omega) (by decide) ?_
        intro A57 c57 w29 H29 hs29
        refine wl_nil (tn ⟨fun hlt => H29.pm (by repeat constructor), ?_⟩)
        refine wh_t rfl ?_
        refine wl_slit (v := .slice none 0 0) (z := [.slice none 0 0]) (cs := [.slice A57 (t.go.getD i []).length c57]) (sz := 1) H29 rfl Try.underlying23 sz39 zv39 (by decide) (by decide) (by kernel_rfl) rfl (by repeat constructor) ?_
        intro b58 w30 hb58 H30 hs30
        refine wl_nil (tn ⟨fun hlt => H30.pm (by repeat constructor), ?_⟩)
        refine wh_t rfl ?_
        refine wl_appRR (f := fInt .i64) (e := 39) (e2 := 3) (u := .slice A57 (t.go.getD i []).length c57) (xs := t.go.getD i []) (xss := t.go.take i) H30 (by repeat constructor) (by repeat constructor) (H30.at (by repeat constructor) rfl) rfl Try.underlying23 info39 rfl rfl rfl (by simp only [List.length_take]; omega) (by decide) ?_
        intro A59 c59 w31 H31 hs31
        refine wl_nil (tn ⟨fun hlt => H31.pm (by repeat constructor), ?_⟩)
        refine wh_t rfl ?_
        refine wl_v rfl rfl rfl (v_fb (o2 := 1) fa25_1 rfl rfl) ?_
        refine wl_nil (tn ⟨fun hlt => absurd hlt (by decide), ?_⟩)
        refine wh_t rfl ?_
        refine wl_store (vs := [_]) H31 (by repeat constructor) sz23 rfl rfl rfl rfl rfl (by repeat constructor) ?_
        intro w32 H33 hw32
        refine wl_nil (tn ⟨fun hlt => absurd hlt (by decide), ?_⟩)
        refine wh_nil ?_
        refine wc_region ?_
        refine wl_v rfl rfl rfl (v_addi rfl rfl (by omega)) ?_
        refine wl_v rfl rfl rfl (v_move rfl) ?_
        refine wl_nil ?_
        have e1 := map_take_succ (xs := t.mv) [] dfRow (i := i) (by omega)
        have e2 := take_succ' (xs := t.go) [] (i := i) (by omega)
        rw [← e1, ← e2] at H33
        exact ⟨i + 1, (sc rfl (sc rfl (sc rfl (sc rfl (sc rfl (sc rfl (sn _))))))), ⟨by omega, _, _, H33.pm (by repeat constructor)⟩, by omega⟩
    · have c1p := of_decide_eq_false c1
      have r3 := hrect.2.2.1
      rw [take_all c1p, take_all (xs := t.go) (by omega)] at H
      obtain ⟨A1, k1, rfl, _⟩ := H.rr (f := fMv) (e := 38) (e2 := 48) (v := v1) (xss := t.mv.map dfRow) (by repeat constructor)
      obtain ⟨A2, k2, rfl, _⟩ := H.rr (f := fInt .i64) (e := 39) (e2 := 3) (v := v2) (xss := t.go) (by repeat constructor)
      refine wc_exit ?_
      refine wc_seq ?_
      refine wc_region ?_
      refine wl_v rfl rfl rfl (v_loadN agg25 rfl rfl (H.ats (by repeat constructor))) ?_
      refine wl_store (vs := [_, _]) H (by repeat constructor) sz25 rfl rfl rfl rfl rfl (by repeat constructor) ?_
      intro w34 H35 hw34
      refine wl_v rfl rfl rfl (v_assign rfl) ?_
      refine wl_nil ?_
      refine wc_ret ?_
      first
        | exact ⟨_, resc2 rfl rfl (run_loadVarN agg25 rfl (H35.ats (by repeat constructor))) rfl, _, _, by rw [(dfAns_t c0p).2], by rw [(dfAns_t c0p).1]; exact H35.pm (by repeat constructor)⟩
        | exact ⟨_, resc2 rfl rfl (run_loadVarN agg25 rfl (H35.ats (by repeat constructor))) rfl, _, _, by rw [(dfAns_f c0p).2], by rw [(dfAns_f c0p).1]; exact ((H35.rrNil fMv 38 48).rrNil (fInt .i64) 39 3).pm (by repeat constructor)⟩
end Go.Proofs.Ytkpehkadammppaa.DfltW
