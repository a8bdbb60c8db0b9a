/- What table.Pack makes. sort.SliceStable at one element or none. -/
import Derived.Test.YtkpehkadammppaaProg
import Derived.Test.YtkpehkadammppaaK08
import Derived.Test.YtkpehkadammppaaK11
import Derived.Test.YtkpehkadammppaaK12
import Derived.Lib.ReflectliteSlice
import Derived.Laws.Externs
set_option linter.unusedVariables false
set_option linter.unusedSimpArgs false
/-! What table.Pack makes. -/
namespace Go.Proofs.Ytkpehkadammppaa.PackW
open Go Go.RowKit Go.Proofs.YtkpehkadammppaaFx Go.Proofs.Ytkpehkadammppaa.Free Go.Proofs.Ytkpehkadammppaa.Chk Go.Proofs.Ytkpehkadammppaa.UsualW Go.Proofs.Ytkpehkadammppaa.LaidW
theorem agg25 : Agg Try.prog 25 2 := agg_of Try.underlying25 (by kernel_rfl)
theorem agg41 : Agg Try.prog 41 9 := agg_of Try.underlying41 (by kernel_rfl)
theorem agg48 : Agg Try.prog 48 2 := agg_of Try.underlying48 (by kernel_rfl)
theorem ba41 : BuildAt Try.prog 41 [.int .i64 0, .int .i64 0, .slice none 0 0, .slice none 0 0, .slice none 0 0, .slice none 0 0, .slice none 0 0, .slice none 0 0, .slice none 0 0] [(0, 1), (1, 1), (2, 1), (3, 1), (4, 1), (5, 1), (6, 1), (7, 1), (8, 1)] := build_at Try.underlying41 (by kernel_rfl) (by kernel_rfl)
theorem en12 : Enters Try.prog 12 := enters Try.func12 (by kernel_rfl) rfl
theorem en33 : Enters Try.prog 33 := enters Try.func33 (by kernel_rfl) rfl
theorem en41 : Enters Try.prog 41 := enters Try.func41 (by kernel_rfl) rfl
theorem eqm48 : EqlMv Try.prog 48 := eql_mv (e := 3) Try.underlying48 (by kernel_rfl) (by kernel_rfl) Try.underlying3 rfl rfl
theorem fa25_0 : FieldAt Try.prog 25 0 0 := field_at (sz := 0) Try.underlying25 rfl (by kernel_rfl) rfl
theorem fa25_1 : FieldAt Try.prog 25 1 1 := field_at (sz := 0) Try.underlying25 rfl (by kernel_rfl) rfl
theorem fa41_2 : FieldAt Try.prog 41 2 2 := field_at (sz := 0) Try.underlying41 rfl (by kernel_rfl) rfl
theorem fa41_3 : FieldAt Try.prog 41 3 3 := field_at (sz := 0) Try.underlying41 rfl (by kernel_rfl) rfl
theorem fa41_4 : FieldAt Try.prog 41 4 4 := field_at (sz := 0) Try.underlying41 rfl (by kernel_rfl) rfl
theorem fa41_5 : FieldAt Try.prog 41 5 5 := field_at (sz := 0) Try.underlying41 rfl (by kernel_rfl) rfl
theorem fa41_6 : FieldAt Try.prog 41 6 6 := field_at (sz := 0) Try.underlying41 rfl (by kernel_rfl) rfl
theorem fa41_7 : FieldAt Try.prog 41 7 7 := field_at (sz := 0) Try.underlying41 rfl (by kernel_rfl) rfl
theorem fa41_8 : FieldAt Try.prog 41 8 8 := field_at (sz := 0) Try.underlying41 rfl (by kernel_rfl) rfl
theorem fa48_0 : FieldAt Try.prog 48 0 0 := field_at (sz := 0) Try.underlying48 rfl (by kernel_rfl) rfl
theorem info3 : (Try.prog.info? 3).map (fun i => (i.zero, i.size, i.bytes)) = some (some (.int .i64 0), 1, 8) := by kernel_rfl
theorem info39 : (Try.prog.info? 39).map (fun i => (i.zero, i.size, i.bytes)) = some (some (.slice none 0 0), 1, 24) := by kernel_rfl
theorem info48 : (Try.prog.info? 48).map (fun i => (i.zero, i.size, i.bytes)) = some (some (.agg #[.int .i64 0, .int .i64 0]), 2, 16) := by kernel_rfl
theorem mixed : Try.prog.follows .mixedOrders = true := by kernel_rfl
theorem one22 : One Try.prog 22 := one_of Try.underlying22 rfl (by kernel_rfl)
theorem one23 : One Try.prog 23 := one_of Try.underlying23 rfl (by kernel_rfl)
theorem one3 : One Try.prog 3 := one_of Try.underlying3 rfl (by kernel_rfl)
theorem one38 : One Try.prog 38 := one_of Try.underlying38 rfl (by kernel_rfl)
theorem one39 : One Try.prog 39 := one_of Try.underlying39 rfl (by kernel_rfl)
theorem sz3 : ∀ W, (sizeOf 3).run Try.prog W = .ok 1 W := size_of (by kernel_rfl)
theorem sz38 : ∀ W, (sizeOf 38).run Try.prog W = .ok 1 W := size_of (by kernel_rfl)
theorem sz39 : ∀ W, (sizeOf 39).run Try.prog W = .ok 1 W := size_of (by kernel_rfl)
theorem sz41 : ∀ W, (sizeOf 41).run Try.prog W = .ok 9 W := size_of (by kernel_rfl)
theorem sz48 : ∀ W, (sizeOf 48).run Try.prog W = .ok 2 W := size_of (by kernel_rfl)
theorem zv3 : ∀ W, (zeroValue 3).run Try.prog W = .ok (.int .i64 0) W := zero_of (by kernel_rfl)
theorem zv39 : ∀ W, (zeroValue 39).run Try.prog W = .ok (.slice none 0 0) W := zero_of (by kernel_rfl)
theorem zv41 : ∀ W, (zeroValue 41).run Try.prog W = .ok (.agg #[.int .i64 0, .int .i64 0, .slice none 0 0, .slice none 0 0, .slice none 0 0, .slice none 0 0, .slice none 0 0, .slice none 0 0, .slice none 0 0]) W := zero_of (by kernel_rfl)
theorem zv48 : ∀ W, (zeroValue 48).run Try.prog W = .ok (.agg #[.int .i64 0, .int .i64 0]) W := zero_of (by kernel_rfl)

set_option maxRecDepth 100000 in
theorem pack_calls {A B : Option Addr} {ca cb : Nat} {t : Tb} {k r p : Int} {w : World} (om og : List Int) (hx : t.rd w A B) (hk : t.ok) (hbig : TGood t k r p → t.mv.length * k.toNat ≤ 1099511627776 ∧ t.go.length * r.toNat ≤ 1099511627776 ∧ k ≤ 1099511627776 ∧ r ≤ 1099511627776)
    (hso : TGood t k r p → SortOk Try.prog (t.mv.map pkRow) om ∧ SortOk Try.prog (t.go.map goRow) og) :
    Calls Try.prog 16 #[t.val A B ca cb, .int .i64 k, .int .i64 r, .int .i64 p] w fun e w' => ∃ v, e = .returned v ∧ ∃ a : PkA, v = .tuple #[(pkAns t k r p om og).val a, .int .i64 (checkF t k r p)] ∧ Holds w (OwnP a (pkAns t k r p om og)) w' := by
  have hM := hx.m
  have hG := hx.g
  have q1 := hk.m'
  have q2 := hk.g'
  refine calls_of Try.func16 rfl Try.ntmps16 rfl ?_
  have H := Holds.start w
  refine wc_seq ?_
  refine wc_region ?_
  refine wl_box (cs := [_, _]) H rfl rfl rfl ?_
  intro b4 w1 hb4 H2
  refine wl_alloc (cs := [.int .i64 0, .int .i64 0, .slice none 0 0, .slice none 0 0, .slice none 0 0, .slice none 0 0, .slice none 0 0, .slice none 0 0, .slice none 0 0]) H2 rfl zv41 rfl ?_
  intro b8 w3 hb8 H4
  refine wl_v rfl rfl rfl (v_assign rfl) ?_
  refine wl_nil ?_
  refine wc_seq ?_
  refine wc_seq ?_
  refine wc_region ?_
  refine wl_v rfl rfl rfl (v_loadN agg25 rfl rfl (H4.ats (by repeat constructor))) ?_
  refine wl_v rfl rfl rfl (v_move rfl) ?_
  refine wl_v rfl rfl rfl (v_move rfl) ?_
  refine wl_v rfl rfl rfl (v_move rfl) ?_
  refine wl_call en12 rfl rfl (check_calls (hx.below H4.old) hk) ?_
  rintro _ w5 ⟨rfl, Hc⟩
  have H6 := H4.call Hc
  refine wl_v rfl rfl rfl (v_assign rfl) ?_
  refine wl_nil ?_
  refine wc_seq ?_
  refine wc_region ?_
  refine wl_v rfl rfl rfl (v_move rfl) ?_
  refine wl_v rfl rfl rfl (v_neq rfl rfl) ?_
  refine wl_nil ?_
  refine wc_cond rfl (fun c0 => ?_) (fun c0 => ?_)
  ·have c0p := of_nd_t c0
   refine wc_seq ?_
   refine wc_region ?_
   refine wl_v rfl rfl rfl (v_bld ba41 rfl (by repeat constructor)) ?_
   refine wl_v rfl rfl rfl (v_move rfl) ?_
   refine wl_store (vs := [_, _, _, _, _, _, _, _, _]) H6 (by repeat constructor) sz41 rfl rfl rfl rfl rfl (by (repeat constructor)) ?_
   intro w7 H8 hw7
   refine wl_v rfl rfl rfl (v_assign rfl) ?_
   refine wl_nil ?_
   refine wc_ret ?_
   first
     | exact ⟨_, resc2 rfl rfl (run_loadVarN agg41 rfl (H8.ats (by repeat constructor))) rfl, ⟨none, none, none, none, none, none, none, 0, 0, 0, 0, 0, 0, 0⟩, by rw [pkAns, if_neg c0p]; rfl, by rw [pkAns, if_neg c0p]; exact (((((((H8.nilrow 48 2).nilrow 3 1).nilrow 3 1).nilrow 48 2).nilrow 3 1).nilrow 3 1).nilrow 3 1).pm (by repeat constructor)⟩
     | (have hcl1 := cellsUpto_len (z := mv0) (check := (laidF (t.mv.map pkRow) om k).2) (base := (laidF (t.mv.map pkRow) om k).1) (rows := t.mv) (Nat.le_refl _)
        have hcl2 := cellsUpto_len (z := (0 : Int)) (check := (laidF (t.go.map goRow) og r).2) (base := (laidF (t.go.map goRow) og r).1) (rows := t.go) (Nat.le_refl _)
        refine ⟨_, resc2 rfl rfl (run_loadVarN agg41 rfl (H8.ats (by repeat constructor))) rfl, ⟨Ad, Ab, Ac, A121, Agb, Agc, A155, cd, cb2, cc, (laidF (t.mv.map pkRow) om k).2.length, cgb, cgc, (laidF (t.go.map goRow) og r).2.length⟩, ?_, ?_⟩
        · rw [show pkAns t k r p om og = packF t k r om og by rw [pkAns, if_pos c0p], c0p]
          simp only [Pk.val, packF, hcl1, hcl2]
        · rw [show pkAns t k r p om og = packF t k r om og by rw [pkAns, if_pos c0p]]
          simp only [OwnP, packF, hcl1, hcl2]
          exact H8.pm (by repeat constructor))
  ·have c0p := of_nd_f c0
   obtain ⟨hna, hg⟩ := checkF_zero c0p
   obtain ⟨hb1, hb2, hb3, hb4⟩ := hbig hg
   obtain ⟨som, sog⟩ := hso hg
   have hgl := hg.2.2.1
   have hpm := pm_ok hg
   have hgm := gm_ok hg
   refine wc_skip ?_
   refine wc_seq ?_
   refine wc_region ?_
   refine wl_v rfl rfl rfl (v_move rfl) ?_
   refine wl_v rfl rfl rfl (v_move rfl) ?_
   refine wl_v rfl rfl rfl (v_bld ba41 rfl (by repeat constructor)) ?_
   refine wl_alloc (cs := [.int .i64 0, .int .i64 0, .slice none 0 0, .slice none 0 0, .slice none 0 0, .slice none 0 0, .slice none 0 0, .slice none 0 0, .slice none 0 0]) H6 rfl zv41 rfl ?_
   intro b11 w9 hb11 H10
   refine wl_store (vs := [_, _, _, _, _, _, _, _, _]) H10 (by repeat constructor) sz41 rfl rfl rfl rfl rfl (by (repeat constructor)) ?_
   intro w11 H12 hw11
   refine wl_nil ?_
   refine wc_seq ?_
   refine wc_region ?_
   refine wl_v rfl rfl rfl (v_assign rfl) ?_
   refine wl_v rfl rfl rfl (v_assign rfl) ?_
   refine wl_nil ?_
   refine wc_seq ?_
   refine wc_seq ?_
   refine wc_region ?_
   refine wl_v rfl rfl rfl (v_fb (o2 := 0) fa25_0 rfl rfl) ?_
   refine wl_v rfl rfl rfl (v_load one22 rfl (H12.at (by repeat constructor) rfl)) ?_
   refine wl_v rfl rfl rfl (v_len Try.underlying22 rfl) ?_
   refine wl_v rfl rfl rfl (v_move rfl) ?_
   refine wl_nil ?_
   refine wc_block ?_
   refine wc_loop (σ := Nat × (Option Addr × Nat) × (Option Addr × Nat) × (Option Addr × Nat)) (fun s => [(1, .int .i64 k), (2, .int .i64 r), (4, .pointer (some ⟨b4, 0, none⟩)), (8, .pointer (some ⟨b8, 0, none⟩)), (11, .pointer (some ⟨b11, 0, none⟩)), (12, .slice s.2.2.1.1 (((t.mv.take s.1).map pkRow)).length s.2.2.1.2), (13, .slice s.2.2.2.1 (((t.go.take s.1).map goRow)).length s.2.2.2.2), (40, .slice A t.mv.length ca), (41, .int .i64 t.mv.length), (42, .int .i64 s.1)]) (fun s W => s.1 ≤ t.mv.length ∧ Holds w [Blk b11 41 [.int .i64 k, .int .i64 r, .slice s.2.1.1 (((t.mv.take s.1).map usualF)).length s.2.1.2, .slice none 0 0, .slice none 0 0, .slice none 0 0, .slice none 0 0, .slice none 0 0, .slice none 0 0], Row fMv 48 (.slice s.2.1.1 (((t.mv.take s.1).map usualF)).length s.2.1.2) (((t.mv.take s.1).map usualF)), RR (fInt .i64) 39 3 (.slice s.2.2.1.1 (((t.mv.take s.1).map pkRow)).length s.2.2.1.2) (((t.mv.take s.1).map pkRow)), RR (fInt .i64) 39 3 (.slice s.2.2.2.1 (((t.go.take s.1).map goRow)).length s.2.2.2.2) (((t.go.take s.1).map goRow)), Blk b8 41 [.int .i64 0, .int .i64 0, .slice none 0 0, .slice none 0 0, .slice none 0 0, .slice none 0 0, .slice none 0 0, .slice none 0 0, .slice none 0 0], Blk b4 25 [.slice A t.mv.length ca, .slice B t.go.length cb]] W) (fun s => t.mv.length - s.1) (0, (none, 0), (none, 0), (none, 0)) (sc rfl (sc rfl (sc rfl (sc rfl (sc rfl (sc rfl (sc rfl (sc rfl (sc rfl (sc rfl (sn _))))))))))) ⟨Nat.zero_le _, (((H12.nilrow 48 2).rrNil (fInt .i64) 39 3).rrNil (fInt .i64) 39 3).pm (by repeat constructor)⟩ ?_
   rintro ⟨i, ⟨Ad, cd⟩, ⟨A12, c12⟩, ⟨A13, c13⟩⟩ W0 ⟨hi, H⟩
   dsimp only at hi H ⊢
   refine wc_seq ?_
   refine wc_region ?_
   refine wl_v rfl rfl rfl (v_lss rfl rfl) ?_
   refine wl_nil ?_
   refine wc_seq ?_
   refine wc_cond rfl (fun c1 => ?_) (fun c1 => ?_)
   ·have c1p := of_decide_eq_true c1
    have r1 := hk.ml (i := i) (by omega)
    have r2 := hk.gl (i := i) (by omega)
    refine wc_skip ?_
    refine wc_seq ?_
    refine wc_block ?_
    refine wc_seq ?_
    refine wc_region ?_
    refine wl_v rfl rfl rfl (v_move rfl) ?_
    refine wl_v rfl rfl rfl (v_idx Try.underlying22 sz38 hM.ad rfl rfl (by omega) (by omega)) ?_
    obtain ⟨B46, cp46, hc46, hl46, hr46⟩ := hM.atSlN (i := i) (by omega)
    refine wl_v rfl rfl rfl (v_load one38 rfl (H.cell (hc46))) ?_
    refine wl_v rfl rfl rfl (v_assign rfl) ?_
    refine wl_v rfl rfl rfl (v_assign rfl) ?_
    refine wl_nil ?_
    refine wc_seq ?_
    refine wc_region ?_
    refine wl_v rfl rfl rfl (v_move rfl) ?_
    refine wl_call en33 rfl rfl (usual_calls (hr46.below H.old) (by unfold maxLen; omega) (fun m hm => ((hk.mr _ (getD_mem (by omega))).2 m hm).2)) ?_
    rintro _ w13 ⟨rfl, Hc⟩
    have H14 := H.call Hc
    refine wl_alloc (cs := [.int .i64 0, .int .i64 0]) H14 rfl zv48 rfl ?_
    intro b16 w15 hb16 H16
    refine wl_store (vs := [_, _]) H16 (by repeat constructor) sz48 rfl rfl rfl rfl rfl (by (repeat constructor)) ?_
    intro w17 H18 hw17
    refine wl_nil ?_
    refine wc_seq ?_
    refine wc_region ?_
    refine wl_v rfl rfl rfl (v_fb (o2 := 2) fa41_2 rfl rfl) ?_
    refine wl_v rfl rfl rfl (v_load one38 rfl (H18.at (by repeat constructor) rfl)) ?_
    refine wl_v rfl rfl rfl (v_loadN agg48 rfl rfl (H18.ats (by repeat constructor))) ?_
    refine wl_slit (v := .agg #[.int .i64 0, .int .i64 0]) (z := [.int .i64 0, .int .i64 0]) (cs := [.int .i64 (usualF (t.mv.getD i [])).d, .int .i64 (usualF (t.mv.getD i [])).n]) (sz := 2) H18 rfl Try.underlying38 sz48 zv48 (by decide) (by decide) (by kernel_rfl) rfl (by repeat constructor) ?_
    intro b52 w19 hb52 H19 hs19
    refine wl_app1 (f := fMv) (xs := ((t.mv.take i).map usualF)) (y' := usualF (t.mv.getD i [])) H19 (fun v' => (by repeat constructor)) (by repeat constructor) rfl Try.underlying38 info48 rfl (by decide) rfl rfl rfl (by simp only [List.length_map, List.length_take]; omega) (by decide) ?_
    intro A53 c53 w20 H20 hs20
    refine wl_v rfl rfl rfl (v_fb (o2 := 2) fa41_2 rfl rfl) ?_
    refine wl_store (vs := [_]) H20 (by repeat constructor) sz38 rfl rfl rfl rfl rfl (by (repeat constructor)) ?_
    intro w21 H22 hw21
    refine wl_nil ?_
    refine wc_seq ?_
    refine wc_region ?_
    refine wl_v rfl rfl rfl (v_assign rfl) ?_
    refine wl_v rfl rfl rfl (v_assign rfl) ?_
    refine wl_nil ?_
    refine wc_seq ?_
    refine wc_seq ?_
    refine wc_region ?_
    refine wl_v rfl rfl rfl (v_move rfl) ?_
    refine wl_v rfl rfl rfl (v_len Try.underlying38 rfl) ?_
    refine wl_v rfl rfl rfl (v_move rfl) ?_
    refine wl_nil ?_
    refine wc_block ?_
    refine wc_loop (σ := Nat × Option Addr × Nat) (fun s => [(1, .int .i64 k), (2, .int .i64 r), (4, .pointer (some ⟨b4, 0, none⟩)), (8, .pointer (some ⟨b8, 0, none⟩)), (11, .pointer (some ⟨b11, 0, none⟩)), (12, .slice A12 (((t.mv.take i).map pkRow)).length c12), (13, .slice A13 (((t.go.take i).map goRow)).length c13), (40, .slice A t.mv.length ca), (41, .int .i64 t.mv.length), (42, .int .i64 i), (14, .int .i64 i), (16, .pointer (some ⟨b16, 0, none⟩)), (17, .slice s.2.1 (pkUpto (keepM (t.mv.getD i [])) s.1).length s.2.2), (18, .slice none 0 0), (55, .slice B46 (t.mv.getD i []).length cp46), (56, .int .i64 (t.mv.getD i []).length), (57, .int .i64 s.1)]) (fun s W => s.1 ≤ (t.mv.getD i []).length ∧ Holds w [Row (fInt .i64) 3 (.slice s.2.1 (pkUpto (keepM (t.mv.getD i [])) s.1).length s.2.2) (pkUpto (keepM (t.mv.getD i [])) s.1), Blk b16 48 [.int .i64 (usualF (t.mv.getD i [])).d, .int .i64 (usualF (t.mv.getD i [])).n], Blk b11 41 [.int .i64 k, .int .i64 r, .slice A53 ((((t.mv.take i).map usualF) ++ [usualF (t.mv.getD i [])])).length c53, .slice none 0 0, .slice none 0 0, .slice none 0 0, .slice none 0 0, .slice none 0 0, .slice none 0 0], Row fMv 48 (.slice A53 ((((t.mv.take i).map usualF) ++ [usualF (t.mv.getD i [])])).length c53) ((((t.mv.take i).map usualF) ++ [usualF (t.mv.getD i [])])), RR (fInt .i64) 39 3 (.slice A12 (((t.mv.take i).map pkRow)).length c12) (((t.mv.take i).map pkRow)), RR (fInt .i64) 39 3 (.slice A13 (((t.go.take i).map goRow)).length c13) (((t.go.take i).map goRow)), Blk b8 41 [.int .i64 0, .int .i64 0, .slice none 0 0, .slice none 0 0, .slice none 0 0, .slice none 0 0, .slice none 0 0, .slice none 0 0, .slice none 0 0], Blk b4 25 [.slice A t.mv.length ca, .slice B t.go.length cb]] W) (fun s => (t.mv.getD i []).length - s.1) (0, none, 0) (sc rfl (sc rfl (sc rfl (sc rfl (sc rfl (sc rfl (sc rfl (sc rfl (sc rfl (sc rfl (sc rfl (sc rfl (sc rfl (sc rfl (sc rfl (sc rfl (sc rfl (sn _)))))))))))))))))) ⟨Nat.zero_le _, (H22.nilrow 3 1).pm (by repeat constructor)⟩ ?_
    rintro ⟨j, A17, c17⟩ W1 ⟨hj, H⟩
    dsimp only at hj H ⊢
    have hpl := pkUpto_len (keepM (t.mv.getD i [])) j
    refine wc_seq ?_
    refine wc_region ?_
    refine wl_v rfl rfl rfl (v_lss rfl rfl) ?_
    refine wl_nil ?_
    refine wc_seq ?_
    refine wc_cond rfl (fun c2 => ?_) (fun c2 => ?_)
    ·have c2p := of_decide_eq_true c2
     refine wc_skip ?_
     refine wc_seq ?_
     refine wc_block ?_
     refine wc_seq ?_
     refine wc_region ?_
     refine wl_v rfl rfl rfl (v_move rfl) ?_
     refine wl_v rfl rfl rfl (v_idx Try.underlying38 sz48 hr46.ad rfl rfl (by omega) (by omega)) ?_
     refine wl_v rfl rfl rfl (v_loadN (cs := fMv.enc _) agg48 rfl rfl (fun k u hu => H.cell (hr46.atN (i := j) (k := k) mv0 (by omega) hu))) ?_
     refine wl_alloc (cs := [.int .i64 0, .int .i64 0]) H rfl zv48 rfl ?_
     intro b20 w23 hb20 H24
     refine wl_v rfl rfl rfl (v_assign rfl) ?_
     refine wl_store (vs := [_, _]) H24 (by repeat constructor) sz48 rfl rfl rfl rfl rfl (by (repeat constructor)) ?_
     intro w25 H26 hw25
     refine wl_nil ?_
     refine wc_seq ?_
     refine wc_region ?_
     refine wl_v rfl rfl rfl (v_loadN agg48 rfl rfl (H26.ats (by repeat constructor))) ?_
     refine wl_v rfl rfl rfl (v_loadN agg48 rfl rfl (H26.ats (by repeat constructor))) ?_
     refine wl_v rfl rfl rfl (v_neqm  eqm48 rfl rfl) ?_
     refine wl_v rfl rfl rfl (v_move rfl) ?_
     refine wl_guard rfl rfl rfl (fun g65 => ?_) (fun g65 => ?_)
     ·have g65p := of_nd_t g65
      refine wl_v rfl rfl rfl (v_fb (o2 := 0) fa48_0 rfl rfl) ?_
      refine wl_on' rfl rfl g65 ?_
      refine wl_v rfl rfl rfl (v_load one3 rfl (H26.at (by repeat constructor) rfl)) ?_
      refine wl_on' rfl rfl g65 ?_
      refine wl_v rfl rfl rfl (v_neq rfl rfl) ?_
      refine wl_v rfl rfl rfl (v_pick_t rfl g65 rfl) ?_
      refine wl_nil ?_
      refine wc_cond rfl (fun c3 => ?_) (fun c3 => ?_)
      ·have c3p := of_nd_t c3
       refine wc_region ?_
       refine wl_v rfl rfl rfl (v_move rfl) ?_
       refine wl_v rfl rfl rfl (v_move rfl) ?_
       refine wl_slit (v := .int .i64 0) (z := [.int .i64 0]) (cs := [.int .i64 (j : Int)]) (sz := 1) H26 rfl Try.underlying39 sz3 zv3 (by decide) (by decide) (by kernel_rfl) rfl (by repeat constructor) ?_
       intro b72 w27 hb72 H27 hs27
       refine wl_app1 (f := fInt .i64) (xs := pkUpto (keepM (t.mv.getD i [])) j) (y' := (j : Int)) H27 (fun v' => (by repeat constructor)) (by repeat constructor) rfl Try.underlying39 info3 rfl (by decide) rfl rfl rfl (by omega) (by decide) ?_
       intro A73 c73 w28 H28 hs28
       refine wl_v rfl rfl rfl (v_assign rfl) ?_
       refine wl_nil ?_
       refine wc_region ?_
       refine wl_v rfl rfl rfl (v_addi rfl rfl (by omega)) ?_
       refine wl_v rfl rfl rfl (v_move rfl) ?_
       refine wl_nil ?_
       first
         | exact ⟨(j + 1, A73, c73), by rw [pkUpto_take (by unfold keepM; rw [decide_eq_false g65p, decide_eq_false c3p]; rfl)]; exact (sc rfl (sc rfl (sc rfl (sc rfl (sc rfl (sc rfl (sc rfl (sc rfl (sc rfl (sc rfl (sc rfl (sc rfl (sc rfl (sc rfl (sc rfl (sc rfl (sc rfl (sn _)))))))))))))))))), ⟨by dsimp only; omega, by rw [pkUpto_take (by unfold keepM; rw [decide_eq_false g65p, decide_eq_false c3p]; rfl)]; exact H28.pm (by repeat constructor)⟩, by dsimp only; omega⟩
         | exact ⟨(j + 1, A17, c17), by rw [pkUpto_skip (by unfold keepM; rw [decide_eq_true g65p]; rfl)]; exact (sc rfl (sc rfl (sc rfl (sc rfl (sc rfl (sc rfl (sc rfl (sc rfl (sc rfl (sc rfl (sc rfl (sc rfl (sc rfl (sc rfl (sc rfl (sc rfl (sc rfl (sn _)))))))))))))))))), ⟨by dsimp only; omega, by rw [pkUpto_skip (by unfold keepM; rw [decide_eq_true g65p]; rfl)]; exact H28.pm (by repeat constructor)⟩, by dsimp only; omega⟩
         | exact ⟨(j + 1, A17, c17), by rw [pkUpto_skip (by unfold keepM; rw [decide_eq_true c3p, Bool.not_true, Bool.and_false])]; exact (sc rfl (sc rfl (sc rfl (sc rfl (sc rfl (sc rfl (sc rfl (sc rfl (sc rfl (sc rfl (sc rfl (sc rfl (sc rfl (sc rfl (sc rfl (sc rfl (sc rfl (sn _)))))))))))))))))), ⟨by dsimp only; omega, by rw [pkUpto_skip (by unfold keepM; rw [decide_eq_true c3p, Bool.not_true, Bool.and_false])]; exact H28.pm (by repeat constructor)⟩, by dsimp only; omega⟩
      ·have c3p := of_nd_f c3
       refine wc_skip ?_
       refine wc_region ?_
       refine wl_v rfl rfl rfl (v_addi rfl rfl (by omega)) ?_
       refine wl_v rfl rfl rfl (v_move rfl) ?_
       refine wl_nil ?_
       first
         | exact ⟨(j + 1, A73, c73), by rw [pkUpto_take (by unfold keepM; rw [decide_eq_false g65p, decide_eq_false c3p]; rfl)]; exact (sc rfl (sc rfl (sc rfl (sc rfl (sc rfl (sc rfl (sc rfl (sc rfl (sc rfl (sc rfl (sc rfl (sc rfl (sc rfl (sc rfl (sc rfl (sc rfl (sc rfl (sn _)))))))))))))))))), ⟨by dsimp only; omega, by rw [pkUpto_take (by unfold keepM; rw [decide_eq_false g65p, decide_eq_false c3p]; rfl)]; exact H26.pm (by repeat constructor)⟩, by dsimp only; omega⟩
         | exact ⟨(j + 1, A17, c17), by rw [pkUpto_skip (by unfold keepM; rw [decide_eq_true g65p]; rfl)]; exact (sc rfl (sc rfl (sc rfl (sc rfl (sc rfl (sc rfl (sc rfl (sc rfl (sc rfl (sc rfl (sc rfl (sc rfl (sc rfl (sc rfl (sc rfl (sc rfl (sc rfl (sn _)))))))))))))))))), ⟨by dsimp only; omega, by rw [pkUpto_skip (by unfold keepM; rw [decide_eq_true g65p]; rfl)]; exact H26.pm (by repeat constructor)⟩, by dsimp only; omega⟩
         | exact ⟨(j + 1, A17, c17), by rw [pkUpto_skip (by unfold keepM; rw [decide_eq_true c3p, Bool.not_true, Bool.and_false])]; exact (sc rfl (sc rfl (sc rfl (sc rfl (sc rfl (sc rfl (sc rfl (sc rfl (sc rfl (sc rfl (sc rfl (sc rfl (sc rfl (sc rfl (sc rfl (sc rfl (sc rfl (sn _)))))))))))))))))), ⟨by dsimp only; omega, by rw [pkUpto_skip (by unfold keepM; rw [decide_eq_true c3p, Bool.not_true, Bool.and_false])]; exact H26.pm (by repeat constructor)⟩, by dsimp only; omega⟩
     ·have g65p := of_nd_f g65
      refine wl_off rfl rfl g65 rfl ?_
      refine wl_off rfl rfl g65 rfl ?_
      refine wl_v rfl rfl rfl (v_pick_f rfl g65 rfl) ?_
      refine wl_nil ?_
      refine wc_cond_f rfl ?_
      refine wc_skip ?_
      refine wc_region ?_
      refine wl_v rfl rfl rfl (v_addi rfl rfl (by omega)) ?_
      refine wl_v rfl rfl rfl (v_move rfl) ?_
      refine wl_nil ?_
      first
        | exact ⟨(j + 1, A73, c73), by rw [pkUpto_take (by unfold keepM; rw [decide_eq_false g65p, decide_eq_false c3p]; rfl)]; exact (sc rfl (sc rfl (sc rfl (sc rfl (sc rfl (sc rfl (sc rfl (sc rfl (sc rfl (sc rfl (sc rfl (sc rfl (sc rfl (sc rfl (sc rfl (sc rfl (sc rfl (sn _)))))))))))))))))), ⟨by dsimp only; omega, by rw [pkUpto_take (by unfold keepM; rw [decide_eq_false g65p, decide_eq_false c3p]; rfl)]; exact H26.pm (by repeat constructor)⟩, by dsimp only; omega⟩
        | exact ⟨(j + 1, A17, c17), by rw [pkUpto_skip (by unfold keepM; rw [decide_eq_true g65p]; rfl)]; exact (sc rfl (sc rfl (sc rfl (sc rfl (sc rfl (sc rfl (sc rfl (sc rfl (sc rfl (sc rfl (sc rfl (sc rfl (sc rfl (sc rfl (sc rfl (sc rfl (sc rfl (sn _)))))))))))))))))), ⟨by dsimp only; omega, by rw [pkUpto_skip (by unfold keepM; rw [decide_eq_true g65p]; rfl)]; exact H26.pm (by repeat constructor)⟩, by dsimp only; omega⟩
        | exact ⟨(j + 1, A17, c17), by rw [pkUpto_skip (by unfold keepM; rw [decide_eq_true c3p, Bool.not_true, Bool.and_false])]; exact (sc rfl (sc rfl (sc rfl (sc rfl (sc rfl (sc rfl (sc rfl (sc rfl (sc rfl (sc rfl (sc rfl (sc rfl (sc rfl (sc rfl (sc rfl (sc rfl (sc rfl (sn _)))))))))))))))))), ⟨by dsimp only; omega, by rw [pkUpto_skip (by unfold keepM; rw [decide_eq_true c3p, Bool.not_true, Bool.and_false])]; exact H26.pm (by repeat constructor)⟩, by dsimp only; omega⟩
    ·have c2p := of_decide_eq_false c2
     have hje : j = (t.mv.getD i []).length := by omega
     subst hje
     refine wc_exit ?_
     refine wc_seq ?_
     refine wc_seq ?_
     refine wc_region ?_
     refine wl_v rfl rfl rfl (v_fb (o2 := 1) fa25_1 rfl rfl) ?_
     refine wl_v rfl rfl rfl (v_load one23 rfl (H.at (by repeat constructor) rfl)) ?_
     refine wl_v rfl rfl rfl (v_move rfl) ?_
     refine wl_v rfl rfl rfl (v_idx Try.underlying23 sz39 hG.ad rfl rfl (by omega) (by omega)) ?_
     obtain ⟨B79, cp79, hc79, hl79, hr79⟩ := hG.atSlN (i := i) (by omega)
     refine wl_v rfl rfl rfl (v_load one39 rfl (H.cell (hc79))) ?_
     refine wl_v rfl rfl rfl (v_len Try.underlying39 rfl) ?_
     refine wl_v rfl rfl rfl (v_move rfl) ?_
     refine wl_nil ?_
     refine wc_block ?_
     refine wc_loop (σ := Nat × Option Addr × Nat) (fun s => [(1, .int .i64 k), (2, .int .i64 r), (4, .pointer (some ⟨b4, 0, none⟩)), (8, .pointer (some ⟨b8, 0, none⟩)), (11, .pointer (some ⟨b11, 0, none⟩)), (12, .slice A12 (((t.mv.take i).map pkRow)).length c12), (13, .slice A13 (((t.go.take i).map goRow)).length c13), (40, .slice A t.mv.length ca), (41, .int .i64 t.mv.length), (42, .int .i64 i), (17, .slice A17 (pkRow (t.mv.getD i [])).length c17), (18, .slice s.2.1 (pkUpto (keepG (t.go.getD i [])) s.1).length s.2.2), (79, .slice B79 (t.go.getD i []).length cp79), (80, .int .i64 (t.go.getD i []).length), (81, .int .i64 s.1)]) (fun s W => s.1 ≤ (t.go.getD i []).length ∧ Holds w [Row (fInt .i64) 3 (.slice s.2.1 (pkUpto (keepG (t.go.getD i [])) s.1).length s.2.2) (pkUpto (keepG (t.go.getD i [])) s.1), Row (fInt .i64) 3 (.slice A17 (pkRow (t.mv.getD i [])).length c17) (pkRow (t.mv.getD i [])), Blk b11 41 [.int .i64 k, .int .i64 r, .slice A53 ((((t.mv.take i).map usualF) ++ [usualF (t.mv.getD i [])])).length c53, .slice none 0 0, .slice none 0 0, .slice none 0 0, .slice none 0 0, .slice none 0 0, .slice none 0 0], Row fMv 48 (.slice A53 ((((t.mv.take i).map usualF) ++ [usualF (t.mv.getD i [])])).length c53) ((((t.mv.take i).map usualF) ++ [usualF (t.mv.getD i [])])), RR (fInt .i64) 39 3 (.slice A12 (((t.mv.take i).map pkRow)).length c12) (((t.mv.take i).map pkRow)), RR (fInt .i64) 39 3 (.slice A13 (((t.go.take i).map goRow)).length c13) (((t.go.take i).map goRow)), Blk b8 41 [.int .i64 0, .int .i64 0, .slice none 0 0, .slice none 0 0, .slice none 0 0, .slice none 0 0, .slice none 0 0, .slice none 0 0, .slice none 0 0], Blk b4 25 [.slice A t.mv.length ca, .slice B t.go.length cb]] W) (fun s => (t.go.getD i []).length - s.1) (0, none, 0) (sc rfl (sc rfl (sc rfl (sc rfl (sc rfl (sc rfl (sc rfl (sc rfl (sc rfl (sc rfl (sc rfl (sc rfl (sc rfl (sc rfl (sc rfl (sn _)))))))))))))))) ⟨Nat.zero_le _, (H.nilrow 3 1).pm (by repeat constructor)⟩ ?_
     rintro ⟨j, A18, c18⟩ W2 ⟨hj, H⟩
     dsimp only at hj H ⊢
     have hpl := pkUpto_len (keepG (t.go.getD i [])) j
     refine wc_seq ?_
     refine wc_region ?_
     refine wl_v rfl rfl rfl (v_lss rfl rfl) ?_
     refine wl_nil ?_
     refine wc_seq ?_
     refine wc_cond rfl (fun c4 => ?_) (fun c4 => ?_)
     ·have c4p := of_decide_eq_true c4
      refine wc_skip ?_
      refine wc_seq ?_
      refine wc_block ?_
      refine wc_seq ?_
      refine wc_region ?_
      refine wl_v rfl rfl rfl (v_move rfl) ?_
      refine wl_v rfl rfl rfl (v_idx Try.underlying39 sz3 hr79.ad rfl rfl (by omega) (by omega)) ?_
      refine wl_v rfl rfl rfl (v_load one3 rfl (H.cell (hr79.at1N (i := j) (by omega)))) ?_
      refine wl_v rfl rfl rfl (v_assign rfl) ?_
      refine wl_v rfl rfl rfl (v_assign rfl) ?_
      refine wl_nil ?_
      refine wc_seq ?_
      refine wc_region ?_
      refine wl_v rfl rfl rfl (v_move rfl) ?_
      refine wl_v rfl rfl rfl (v_geq rfl rfl) ?_
      refine wl_nil ?_
      refine wc_cond rfl (fun c5 => ?_) (fun c5 => ?_)
      ·have c5p := of_decide_eq_true c5
       refine wc_region ?_
       refine wl_v rfl rfl rfl (v_move rfl) ?_
       refine wl_v rfl rfl rfl (v_move rfl) ?_
       refine wl_slit (v := .int .i64 0) (z := [.int .i64 0]) (cs := [.int .i64 (j : Int)]) (sz := 1) H rfl Try.underlying39 sz3 zv3 (by decide) (by decide) (by kernel_rfl) rfl (by repeat constructor) ?_
       intro b90 w29 hb90 H29 hs29
       refine wl_app1 (f := fInt .i64) (xs := pkUpto (keepG (t.go.getD i [])) j) (y' := (j : Int)) H29 (fun v' => (by repeat constructor)) (by repeat constructor) rfl Try.underlying39 info3 rfl (by decide) rfl rfl rfl (by omega) (by decide) ?_
       intro A91 c91 w30 H30 hs30
       refine wl_v rfl rfl rfl (v_assign rfl) ?_
       refine wl_nil ?_
       refine wc_region ?_
       refine wl_v rfl rfl rfl (v_addi rfl rfl (by omega)) ?_
       refine wl_v rfl rfl rfl (v_move rfl) ?_
       refine wl_nil ?_
       first
         | exact ⟨(j + 1, A91, c91), by rw [pkUpto_take (decide_eq_true c5p)]; exact (sc rfl (sc rfl (sc rfl (sc rfl (sc rfl (sc rfl (sc rfl (sc rfl (sc rfl (sc rfl (sc rfl (sc rfl (sc rfl (sc rfl (sc rfl (sn _)))))))))))))))), ⟨by dsimp only; omega, by rw [pkUpto_take (decide_eq_true c5p)]; exact H30.pm (by repeat constructor)⟩, by dsimp only; omega⟩
         | exact ⟨(j + 1, A18, c18), by rw [pkUpto_skip (decide_eq_false c5p)]; exact (sc rfl (sc rfl (sc rfl (sc rfl (sc rfl (sc rfl (sc rfl (sc rfl (sc rfl (sc rfl (sc rfl (sc rfl (sc rfl (sc rfl (sc rfl (sn _)))))))))))))))), ⟨by dsimp only; omega, by rw [pkUpto_skip (decide_eq_false c5p)]; exact H30.pm (by repeat constructor)⟩, by dsimp only; omega⟩
      ·have c5p := of_decide_eq_false c5
       refine wc_skip ?_
       refine wc_region ?_
       refine wl_v rfl rfl rfl (v_addi rfl rfl (by omega)) ?_
       refine wl_v rfl rfl rfl (v_move rfl) ?_
       refine wl_nil ?_
       first
         | exact ⟨(j + 1, A91, c91), by rw [pkUpto_take (decide_eq_true c5p)]; exact (sc rfl (sc rfl (sc rfl (sc rfl (sc rfl (sc rfl (sc rfl (sc rfl (sc rfl (sc rfl (sc rfl (sc rfl (sc rfl (sc rfl (sc rfl (sn _)))))))))))))))), ⟨by dsimp only; omega, by rw [pkUpto_take (decide_eq_true c5p)]; exact H.pm (by repeat constructor)⟩, by dsimp only; omega⟩
         | exact ⟨(j + 1, A18, c18), by rw [pkUpto_skip (decide_eq_false c5p)]; exact (sc rfl (sc rfl (sc rfl (sc rfl (sc rfl (sc rfl (sc rfl (sc rfl (sc rfl (sc rfl (sc rfl (sc rfl (sc rfl (sc rfl (sc rfl (sn _)))))))))))))))), ⟨by dsimp only; omega, by rw [pkUpto_skip (decide_eq_false c5p)]; exact H.pm (by repeat constructor)⟩, by dsimp only; omega⟩
     ·have c4p := of_decide_eq_false c4
      have hje : j = (t.go.getD i []).length := by omega
      subst hje
      refine wc_exit ?_
      refine wc_region ?_
      refine wl_v rfl rfl rfl (v_move rfl) ?_
      refine wl_v rfl rfl rfl (v_move rfl) ?_
      refine wl_slit (v := .slice none 0 0) (z := [.slice none 0 0]) (cs := [.slice A17 (pkRow (t.mv.getD i [])).length c17]) (sz := 1) H rfl Try.underlying23 sz39 zv39 (by decide) (by decide) (by kernel_rfl) rfl (by repeat constructor) ?_
      intro b95 w31 hb95 H31 hs31
      refine wl_appRR (f := fInt .i64) (e := 39) (e2 := 3) (v := .slice A12 (((t.mv.take i).map pkRow)).length c12) (u := .slice A17 (pkRow (t.mv.getD i [])).length c17) (xs := pkRow (t.mv.getD i [])) (xss := ((t.mv.take i).map pkRow)) H31 (by repeat constructor) (by repeat constructor) (H31.at (by repeat constructor) rfl) rfl Try.underlying23 info39 rfl rfl rfl (by simp only [List.length_map, List.length_take]; omega) (by decide) ?_
      intro A96 c96 w32 H32 hs32
      refine wl_v rfl rfl rfl (v_move rfl) ?_
      refine wl_v rfl rfl rfl (v_move rfl) ?_
      refine wl_slit (v := .slice none 0 0) (z := [.slice none 0 0]) (cs := [.slice A18 (goRow (t.go.getD i [])).length c18]) (sz := 1) H32 rfl Try.underlying23 sz39 zv39 (by decide) (by decide) (by kernel_rfl) rfl (by repeat constructor) ?_
      intro b99 w33 hb99 H33 hs33
      refine wl_appRR (f := fInt .i64) (e := 39) (e2 := 3) (v := .slice A13 (((t.go.take i).map goRow)).length c13) (u := .slice A18 (goRow (t.go.getD i [])).length c18) (xs := goRow (t.go.getD i [])) (xss := ((t.go.take i).map goRow)) H33 (by repeat constructor) (by repeat constructor) (H33.at (by repeat constructor) rfl) rfl Try.underlying23 info39 rfl rfl rfl (by simp only [List.length_map, List.length_take]; omega) (by decide) ?_
      intro A100 c100 w34 H34 hs34
      refine wl_v rfl rfl rfl (v_assign rfl) ?_
      refine wl_v rfl rfl rfl (v_assign rfl) ?_
      refine wl_nil ?_
      refine wc_region ?_
      refine wl_v rfl rfl rfl (v_addi rfl rfl (by omega)) ?_
      refine wl_v rfl rfl rfl (v_move rfl) ?_
      refine wl_nil ?_
      have e1 := map_take_succ (xs := t.mv) [] usualF (i := i) (by omega)
      have e2 := map_take_succ (xs := t.mv) [] pkRow (i := i) (by omega)
      have e3 := map_take_succ (xs := t.go) [] goRow (i := i) (by omega)
      exact ⟨(i + 1, (A53, c53), (A96, c96), (A100, c100)), by rw [e2, e3]; exact (sc rfl (sc rfl (sc rfl (sc rfl (sc rfl (sc rfl (sc rfl (sc rfl (sc rfl (sc rfl (sn _))))))))))), ⟨by dsimp only; omega, by rw [e1, e2, e3]; exact H34.pm (by repeat constructor)⟩, by dsimp only; omega⟩
   ·have c1p := of_decide_eq_false c1
    rw [take_all c1p, take_all (xs := t.go) (by omega)] at H ⊢
    have hlc := laidF_len (least := k) som.lt som.len (fun x hx => (hpm x hx).1)
    have hgc := laidF_len (least := r) sog.lt sog.len (fun x hx => (hgm x hx).1)
    rw [List.length_map] at hlc hgc
    have hlb := laidF_len1 (t.mv.map pkRow) om k
    have hgb := laidF_len1 (t.go.map goRow) og r
    rw [List.length_map] at hlb hgb
    refine wc_exit ?_
    refine wc_seq ?_
    refine wc_region ?_
    refine wl_v rfl rfl rfl (v_move rfl) ?_
    refine wl_v rfl rfl rfl (v_move rfl) ?_
    refine wl_call en41 rfl rfl (laid_calls om (H.rrR (f := fInt .i64) (e := 39) (e2 := 3) (A := A12) (xss := t.mv.map pkRow) (by repeat constructor)) (fun x hx => (hpm x hx).1) (fun x hx => Nat.le_trans (hpm x hx).2 (by omega)) (by rw [List.length_map]; omega) (by rw [List.length_map]; omega) (by omega) (by omega) som.len som.lt (fun W A15 b2 b6 HW => som.run _ W _ A15 _ b2 b6 (H.rrR (f := fInt .i64) (e := 39) (e2 := 3) (A := A12) (xss := t.mv.map pkRow) (by repeat constructor)) HW)) ?_
    rintro _ w35 ⟨Ab, cb2, Ac, cc, rfl, Hc⟩
    have H36 := H.call Hc
    refine wl_v rfl rfl rfl (v_move rfl) ?_
    refine wl_v rfl rfl rfl (v_extract rfl rfl) ?_
    refine wl_v rfl rfl rfl (v_extract rfl rfl) ?_
    refine wl_v rfl rfl rfl (v_fb (o2 := 3) fa41_3 rfl rfl) ?_
    refine wl_store (vs := [_]) H36 (by repeat constructor) sz39 rfl rfl rfl rfl rfl (by (repeat constructor)) ?_
    intro w37 H38 hw37
    refine wl_v rfl rfl rfl (v_fb (o2 := 4) fa41_4 rfl rfl) ?_
    refine wl_store (vs := [_]) H38 (by repeat constructor) sz39 rfl rfl rfl rfl rfl (by (repeat constructor)) ?_
    intro w39 H40 hw39
    refine wl_nil ?_
    refine wc_seq ?_
    refine wc_region ?_
    refine wl_v rfl rfl rfl (v_move rfl) ?_
    refine wl_v rfl rfl rfl (v_move rfl) ?_
    refine wl_call en41 rfl rfl (laid_calls og (H40.rrR (f := fInt .i64) (e := 39) (e2 := 3) (A := A13) (xss := t.go.map goRow) (by repeat constructor)) (fun x hx => (hgm x hx).1) (fun x hx => Nat.le_trans (hgm x hx).2 (by omega)) (by rw [List.length_map]; omega) (by rw [List.length_map]; omega) (by omega) (by omega) sog.len sog.lt (fun W A15 b2 b6 HW => sog.run _ W _ A15 _ b2 b6 (H40.rrR (f := fInt .i64) (e := 39) (e2 := 3) (A := A13) (xss := t.go.map goRow) (by repeat constructor)) HW)) ?_
    rintro _ w41 ⟨Agb, cgb, Agc, cgc, rfl, Hc⟩
    have H42 := H40.call Hc
    refine wl_v rfl rfl rfl (v_move rfl) ?_
    refine wl_v rfl rfl rfl (v_extract rfl rfl) ?_
    refine wl_v rfl rfl rfl (v_extract rfl rfl) ?_
    refine wl_v rfl rfl rfl (v_fb (o2 := 6) fa41_6 rfl rfl) ?_
    refine wl_store (vs := [_]) H42 (by repeat constructor) sz39 rfl rfl rfl rfl rfl (by (repeat constructor)) ?_
    intro w43 H44 hw43
    refine wl_v rfl rfl rfl (v_fb (o2 := 7) fa41_7 rfl rfl) ?_
    refine wl_store (vs := [_]) H44 (by repeat constructor) sz39 rfl rfl rfl rfl rfl (by (repeat constructor)) ?_
    intro w45 H46 hw45
    refine wl_nil ?_
    refine wc_seq ?_
    refine wc_region ?_
    refine wl_v rfl rfl rfl (v_fb (o2 := 4) fa41_4 rfl rfl) ?_
    refine wl_v rfl rfl rfl (v_load one39 rfl (H46.at (by repeat constructor) rfl)) ?_
    refine wl_v rfl rfl rfl (v_len Try.underlying39 rfl) ?_
    refine wl_make (f := fMv) (z' := mv0) H46 rfl Try.underlying38 info48 rfl (by decide) rfl rfl (by omega) (by omega) (by decide) ?_
    intro A121 w47 H47 hs47
    rw [Int.toNat_natCast] at H47 ⊢
    refine wl_v rfl rfl rfl (v_fb (o2 := 5) fa41_5 rfl rfl) ?_
    refine wl_store (vs := [_]) H47 (by repeat constructor) sz38 rfl rfl rfl rfl rfl (by (repeat constructor)) ?_
    intro w48 H49 hw48
    refine wl_nil ?_
    refine wc_seq ?_
    refine wc_seq ?_
    refine wc_region ?_
    refine wl_v rfl rfl rfl (v_fb (o2 := 4) fa41_4 rfl rfl) ?_
    refine wl_v rfl rfl rfl (v_load one39 rfl (H49.at (by repeat constructor) rfl)) ?_
    refine wl_v rfl rfl rfl (v_len Try.underlying39 rfl) ?_
    refine wl_v rfl rfl rfl (v_move rfl) ?_
    refine wl_nil ?_
    refine wc_block ?_
    refine wc_loop (σ := Nat) (fun s => [(4, .pointer (some ⟨b4, 0, none⟩)), (8, .pointer (some ⟨b8, 0, none⟩)), (11, .pointer (some ⟨b11, 0, none⟩)), (124, .slice Ac (laidF (t.mv.map pkRow) om k).2.length cc), (125, .int .i64 (laidF (t.mv.map pkRow) om k).2.length), (126, .int .i64 s)]) (fun s W => s ≤ (laidF (t.mv.map pkRow) om k).2.length ∧ Holds w [Row fMv 48 (.slice A121 (laidF (t.mv.map pkRow) om k).2.length (laidF (t.mv.map pkRow) om k).2.length) (cellsUpto mv0 (laidF (t.mv.map pkRow) om k).2 (laidF (t.mv.map pkRow) om k).1 t.mv s), Row (fInt .i64) 3 (.slice Ac ((laidF (t.mv.map pkRow) om k).2).length cc) ((laidF (t.mv.map pkRow) om k).2), Row (fInt .i64) 3 (.slice Ab ((laidF (t.mv.map pkRow) om k).1).length cb2) ((laidF (t.mv.map pkRow) om k).1), Row (fInt .i64) 3 (.slice Agc ((laidF (t.go.map goRow) og r).2).length cgc) ((laidF (t.go.map goRow) og r).2), Row (fInt .i64) 3 (.slice Agb ((laidF (t.go.map goRow) og r).1).length cgb) ((laidF (t.go.map goRow) og r).1), Row fMv 48 (.slice Ad ((t.mv.map usualF)).length cd) ((t.mv.map usualF)), Blk b11 41 [.int .i64 k, .int .i64 r, .slice Ad ((t.mv.map usualF)).length cd, .slice Ab ((laidF (t.mv.map pkRow) om k).1).length cb2, .slice Ac ((laidF (t.mv.map pkRow) om k).2).length cc, .slice A121 (laidF (t.mv.map pkRow) om k).2.length (laidF (t.mv.map pkRow) om k).2.length, .slice Agb ((laidF (t.go.map goRow) og r).1).length cgb, .slice Agc ((laidF (t.go.map goRow) og r).2).length cgc, .slice none 0 0], Blk b8 41 [.int .i64 0, .int .i64 0, .slice none 0 0, .slice none 0 0, .slice none 0 0, .slice none 0 0, .slice none 0 0, .slice none 0 0, .slice none 0 0], Blk b4 25 [.slice A t.mv.length ca, .slice B t.go.length cb]] W) (fun s => (laidF (t.mv.map pkRow) om k).2.length - s) 0 (sc rfl (sc rfl (sc rfl (sc rfl (sc rfl (sc rfl (sn _))))))) ⟨Nat.zero_le _, by rw [cellsUpto_zero]; exact H49.pm (by repeat constructor)⟩ ?_
    rintro s W3 ⟨hs, H⟩
    refine wc_seq ?_
    refine wc_region ?_
    refine wl_v rfl rfl rfl (v_lss rfl rfl) ?_
    refine wl_nil ?_
    refine wc_seq ?_
    refine wc_cond rfl (fun c6 => ?_) (fun c6 => ?_)
    ·have c6p := of_decide_eq_true c6
     have hsl : s < (laidF (t.mv.map pkRow) om k).2.length := by omega
     have hgd := getD_irrel hsl (-1) 0
     have hchk := H.rrd (f := fInt .i64) (e := 3) (A := Ac) (xs := (laidF (t.mv.map pkRow) om k).2) (by repeat constructor)
     have hcl := cellsUpto_len (z := mv0) (check := (laidF (t.mv.map pkRow) om k).2) (base := (laidF (t.mv.map pkRow) om k).1) (rows := t.mv) (j := s) (by omega)
     have hcell := H.rrd (f := fMv) (e := 48) (A := A121) (xs := cellsUpto mv0 (laidF (t.mv.map pkRow) om k).2 (laidF (t.mv.map pkRow) om k).1 t.mv s) (by repeat constructor)
     have hcellad : 0 < (laidF (t.mv.map pkRow) om k).2.length → A121 = some (adr A121) := fun h => hcell.ad (by omega)
     refine wc_skip ?_
     refine wc_seq ?_
     refine wc_block ?_
     refine wc_seq ?_
     refine wc_region ?_
     refine wl_v rfl rfl rfl (v_move rfl) ?_
     refine wl_v rfl rfl rfl (v_idx Try.underlying39 sz3 hchk.ad rfl rfl (by omega) (by omega)) ?_
     refine wl_v rfl rfl rfl (v_load one3 rfl (hchk.at1N (i := s) (by omega))) ?_
     refine wl_v rfl rfl rfl (v_assign rfl) ?_
     refine wl_v rfl rfl rfl (v_assign rfl) ?_
     refine wl_nil ?_
     refine wc_seq ?_
     refine wc_region ?_
     refine wl_v rfl rfl rfl (v_move rfl) ?_
     refine wl_v rfl rfl rfl (v_geq rfl rfl) ?_
     refine wl_nil ?_
     refine wc_cond rfl (fun c7 => ?_) (fun c7 => ?_)
     ·have c7p := of_decide_eq_true c7
      obtain ⟨z1, z2, z3⟩ := laid_cell (src := t.mv) (p := keepM) som rfl hsl c7p
      have r1 := hk.ml (i := ((laidF (t.mv.map pkRow) om k).2.getD s 0).toNat) (by omega)
      refine wc_held 18 18 (fun W => Holds w [Blk b11 41 [.int .i64 k, .int .i64 r, .slice Ad ((t.mv.map usualF)).length cd, .slice Ab ((laidF (t.mv.map pkRow) om k).1).length cb2, .slice Ac ((laidF (t.mv.map pkRow) om k).2).length cc, .slice A121 (laidF (t.mv.map pkRow) om k).2.length (laidF (t.mv.map pkRow) om k).2.length, .slice Agb ((laidF (t.go.map goRow) og r).1).length cgb, .slice Agc ((laidF (t.go.map goRow) og r).2).length cgc, .slice none 0 0], Row (fInt .i64) 3 (.slice Ab ((laidF (t.mv.map pkRow) om k).1).length cb2) ((laidF (t.mv.map pkRow) om k).1), Blk b4 25 [.slice A t.mv.length ca, .slice B t.go.length cb]] W) mixed (by kernel_rfl) (fun _ _ _ h => h) ?_
      have Hd := H.drew
      refine wh_v rfl (Hd.pm (by repeat constructor)) rfl rfl rfl (fun W HW => v_fb (o2 := 5) fa41_5 rfl rfl) ?_
      refine wh_v rfl (Hd.pm (by repeat constructor)) rfl rfl rfl (fun W HW => v_load one38 rfl (HW.at (by repeat constructor) rfl)) ?_
      refine wh_v rfl (Hd.pm (by repeat constructor)) rfl rfl rfl (fun W HW => v_move rfl) ?_
      refine wh_v rfl (Hd.pm (by repeat constructor)) rfl rfl rfl (fun W HW => v_fb (o2 := 0) fa25_0 rfl rfl) ?_
      refine wh_v rfl (Hd.pm (by repeat constructor)) rfl rfl rfl (fun W HW => v_load one22 rfl (HW.at (by repeat constructor) rfl)) ?_
      refine wh_v rfl (Hd.pm (by repeat constructor)) rfl rfl rfl (fun W HW => v_move rfl) ?_
      refine wh_v rfl (Hd.pm (by repeat constructor)) rfl rfl rfl (fun W HW => v_idx Try.underlying22 sz38 hM.ad rfl rfl (by omega) (by omega)) ?_
      obtain ⟨B140, cp140, hc140, hl140, hr140⟩ := hM.atSl (i := ((laidF (t.mv.map pkRow) om k).2.getD s 0)) (by omega) (by omega)
      refine wh_v rfl (Hd.pm (by repeat constructor)) rfl rfl rfl (fun W HW => v_load one38 rfl (HW.cell (hc140))) ?_
      refine wh_v rfl (Hd.pm (by repeat constructor)) rfl rfl rfl (fun W HW => v_move rfl) ?_
      refine wh_v rfl (Hd.pm (by repeat constructor)) rfl rfl rfl (fun W HW => v_fb (o2 := 3) fa41_3 rfl rfl) ?_
      refine wh_v rfl (Hd.pm (by repeat constructor)) rfl rfl rfl (fun W HW => v_load one39 rfl (HW.at (by repeat constructor) rfl)) ?_
      refine wh_v rfl (Hd.pm (by repeat constructor)) rfl rfl rfl (fun W HW => v_move rfl) ?_
      refine wh_v rfl (Hd.pm (by repeat constructor)) rfl rfl rfl (fun W HW => v_idx Try.underlying39 sz3 (HW.rrd (f := fInt .i64) (e := 3) (A := Ab) (xs := (laidF (t.mv.map pkRow) om k).1) (by repeat constructor)).ad rfl rfl (by omega) (by omega)) ?_
      refine wh_v rfl (Hd.pm (by repeat constructor)) rfl rfl rfl (fun W HW => v_load one3 rfl ((HW.rrd (f := fInt .i64) (e := 3) (A := Ab) (xs := (laidF (t.mv.map pkRow) om k).1) (by repeat constructor)).at1 (by omega) (by omega))) ?_
      refine wh_v rfl (Hd.pm (by repeat constructor)) rfl rfl rfl (fun W HW => v_subi rfl rfl (by omega)) ?_
      refine wh_v rfl (Hd.pm (by repeat constructor)) rfl rfl rfl (fun W HW => v_idx Try.underlying38 sz48 hr140.ad rfl rfl (by omega) (by omega)) ?_
      refine wh_v rfl (Hd.pm (by repeat constructor)) rfl rfl rfl (fun W HW => v_loadN (cs := fMv.enc _) agg48 rfl rfl (fun k u hu => HW.cell (hr140.at (k := k) mv0 (by omega) (by omega) hu))) ?_
      refine wh_v rfl (Hd.pm (by repeat constructor)) rfl rfl rfl (fun W HW => v_idx Try.underlying38 sz48 hcellad rfl rfl (by omega) (by omega)) ?_
      refine wh_t rfl ?_
      refine wl_storeR (f := fMv) (xs := cellsUpto mv0 (laidF (t.mv.map pkRow) om k).2 (laidF (t.mv.map pkRow) om k).1 t.mv s) (i := (s : Int)) (x' := (t.mv.getD ((laidF (t.mv.map pkRow) om k).2.getD s 0).toNat []).getD ((s : Int) - (laidF (t.mv.map pkRow) om k).1.getD ((laidF (t.mv.map pkRow) om k).2.getD s 0).toNat 0).toNat mv0) Hd (by repeat constructor) sz48 rfl rfl rfl (by omega) (by omega) ?_
      intro w50 H50
      refine wl_nil (tn ⟨fun hlt => absurd hlt (by decide), ?_⟩)
      refine wh_nil ?_
      refine wc_region ?_
      refine wl_v rfl rfl rfl (v_addi rfl rfl (by omega)) ?_
      refine wl_v rfl rfl rfl (v_move rfl) ?_
      refine wl_nil ?_
      first
        | exact ⟨s + 1, (sc rfl (sc rfl (sc rfl (sc rfl (sc rfl (sc rfl (sn _))))))), ⟨by omega, by rw [cellsUpto_next hsl, hgd, if_pos c7p]; exact H50.pm (by repeat constructor)⟩, by omega⟩
        | exact ⟨s + 1, (sc rfl (sc rfl (sc rfl (sc rfl (sc rfl (sc rfl (sn _))))))), ⟨by omega, by rw [cellsUpto_skip hsl (by rw [hgd]; exact c7p)]; exact H50.pm (by repeat constructor)⟩, by omega⟩
     ·have c7p := of_decide_eq_false c7
      refine wc_skip ?_
      refine wc_region ?_
      refine wl_v rfl rfl rfl (v_addi rfl rfl (by omega)) ?_
      refine wl_v rfl rfl rfl (v_move rfl) ?_
      refine wl_nil ?_
      first
        | exact ⟨s + 1, (sc rfl (sc rfl (sc rfl (sc rfl (sc rfl (sc rfl (sn _))))))), ⟨by omega, by rw [cellsUpto_next hsl, hgd, if_pos c7p]; exact H.pm (by repeat constructor)⟩, by omega⟩
        | exact ⟨s + 1, (sc rfl (sc rfl (sc rfl (sc rfl (sc rfl (sc rfl (sn _))))))), ⟨by omega, by rw [cellsUpto_skip hsl (by rw [hgd]; exact c7p)]; exact H.pm (by repeat constructor)⟩, by omega⟩
    ·have c6p := of_decide_eq_false c6
     have hje : s = (laidF (t.mv.map pkRow) om k).2.length := by omega
     subst hje
     refine wc_exit ?_
     refine wc_seq ?_
     refine wc_region ?_
     refine wl_v rfl rfl rfl (v_fb (o2 := 7) fa41_7 rfl rfl) ?_
     refine wl_v rfl rfl rfl (v_load one39 rfl (H.at (by repeat constructor) rfl)) ?_
     refine wl_v rfl rfl rfl (v_len Try.underlying39 rfl) ?_
     refine wl_make (f := fInt .i64) (z' := 0) H rfl Try.underlying39 info3 rfl (by decide) rfl rfl (by omega) (by omega) (by decide) ?_
     intro A155 w51 H51 hs51
     rw [Int.toNat_natCast] at H51 ⊢
     refine wl_v rfl rfl rfl (v_fb (o2 := 8) fa41_8 rfl rfl) ?_
     refine wl_store (vs := [_]) H51 (by repeat constructor) sz39 rfl rfl rfl rfl rfl (by (repeat constructor)) ?_
     intro w52 H53 hw52
     refine wl_nil ?_
     refine wc_seq ?_
     refine wc_seq ?_
     refine wc_region ?_
     refine wl_v rfl rfl rfl (v_fb (o2 := 7) fa41_7 rfl rfl) ?_
     refine wl_v rfl rfl rfl (v_load one39 rfl (H53.at (by repeat constructor) rfl)) ?_
     refine wl_v rfl rfl rfl (v_len Try.underlying39 rfl) ?_
     refine wl_v rfl rfl rfl (v_move rfl) ?_
     refine wl_nil ?_
     refine wc_block ?_
     refine wc_loop (σ := Nat) (fun s => [(4, .pointer (some ⟨b4, 0, none⟩)), (8, .pointer (some ⟨b8, 0, none⟩)), (11, .pointer (some ⟨b11, 0, none⟩)), (158, .slice Agc (laidF (t.go.map goRow) og r).2.length cgc), (159, .int .i64 (laidF (t.go.map goRow) og r).2.length), (160, .int .i64 s)]) (fun s W => s ≤ (laidF (t.go.map goRow) og r).2.length ∧ Holds w [Row (fInt .i64) 3 (.slice A155 (laidF (t.go.map goRow) og r).2.length (laidF (t.go.map goRow) og r).2.length) (cellsUpto 0 (laidF (t.go.map goRow) og r).2 (laidF (t.go.map goRow) og r).1 t.go s), Row fMv 48 (.slice A121 (laidF (t.mv.map pkRow) om k).2.length (laidF (t.mv.map pkRow) om k).2.length) (cellsUpto mv0 (laidF (t.mv.map pkRow) om k).2 (laidF (t.mv.map pkRow) om k).1 t.mv (laidF (t.mv.map pkRow) om k).2.length), Row (fInt .i64) 3 (.slice Ac ((laidF (t.mv.map pkRow) om k).2).length cc) ((laidF (t.mv.map pkRow) om k).2), Row (fInt .i64) 3 (.slice Ab ((laidF (t.mv.map pkRow) om k).1).length cb2) ((laidF (t.mv.map pkRow) om k).1), Row (fInt .i64) 3 (.slice Agc ((laidF (t.go.map goRow) og r).2).length cgc) ((laidF (t.go.map goRow) og r).2), Row (fInt .i64) 3 (.slice Agb ((laidF (t.go.map goRow) og r).1).length cgb) ((laidF (t.go.map goRow) og r).1), Row fMv 48 (.slice Ad ((t.mv.map usualF)).length cd) ((t.mv.map usualF)), Blk b11 41 [.int .i64 k, .int .i64 r, .slice Ad ((t.mv.map usualF)).length cd, .slice Ab ((laidF (t.mv.map pkRow) om k).1).length cb2, .slice Ac ((laidF (t.mv.map pkRow) om k).2).length cc, .slice A121 (laidF (t.mv.map pkRow) om k).2.length (laidF (t.mv.map pkRow) om k).2.length, .slice Agb ((laidF (t.go.map goRow) og r).1).length cgb, .slice Agc ((laidF (t.go.map goRow) og r).2).length cgc, .slice A155 (laidF (t.go.map goRow) og r).2.length (laidF (t.go.map goRow) og r).2.length], Blk b8 41 [.int .i64 0, .int .i64 0, .slice none 0 0, .slice none 0 0, .slice none 0 0, .slice none 0 0, .slice none 0 0, .slice none 0 0, .slice none 0 0], Blk b4 25 [.slice A t.mv.length ca, .slice B t.go.length cb]] W) (fun s => (laidF (t.go.map goRow) og r).2.length - s) 0 (sc rfl (sc rfl (sc rfl (sc rfl (sc rfl (sc rfl (sn _))))))) ⟨Nat.zero_le _, by rw [cellsUpto_zero]; exact H53.pm (by repeat constructor)⟩ ?_
     rintro s W4 ⟨hs, H⟩
     refine wc_seq ?_
     refine wc_region ?_
     refine wl_v rfl rfl rfl (v_lss rfl rfl) ?_
     refine wl_nil ?_
     refine wc_seq ?_
     refine wc_cond rfl (fun c8 => ?_) (fun c8 => ?_)
     ·have c8p := of_decide_eq_true c8
      have hsl : s < (laidF (t.go.map goRow) og r).2.length := by omega
      have hgd := getD_irrel hsl (-1) 0
      have hchk := H.rrd (f := fInt .i64) (e := 3) (A := Agc) (xs := (laidF (t.go.map goRow) og r).2) (by repeat constructor)
      have hcl := cellsUpto_len (z := (0 : Int)) (check := (laidF (t.go.map goRow) og r).2) (base := (laidF (t.go.map goRow) og r).1) (rows := t.go) (j := s) (by omega)
      have hcell := H.rrd (f := fInt .i64) (e := 3) (A := A155) (xs := cellsUpto 0 (laidF (t.go.map goRow) og r).2 (laidF (t.go.map goRow) og r).1 t.go s) (by repeat constructor)
      have hcellad : 0 < (laidF (t.go.map goRow) og r).2.length → A155 = some (adr A155) := fun h => hcell.ad (by omega)
      refine wc_skip ?_
      refine wc_seq ?_
      refine wc_block ?_
      refine wc_seq ?_
      refine wc_region ?_
      refine wl_v rfl rfl rfl (v_move rfl) ?_
      refine wl_v rfl rfl rfl (v_idx Try.underlying39 sz3 hchk.ad rfl rfl (by omega) (by omega)) ?_
      refine wl_v rfl rfl rfl (v_load one3 rfl (hchk.at1N (i := s) (by omega))) ?_
      refine wl_v rfl rfl rfl (v_assign rfl) ?_
      refine wl_v rfl rfl rfl (v_assign rfl) ?_
      refine wl_nil ?_
      refine wc_seq ?_
      refine wc_region ?_
      refine wl_v rfl rfl rfl (v_move rfl) ?_
      refine wl_v rfl rfl rfl (v_geq rfl rfl) ?_
      refine wl_nil ?_
      refine wc_cond rfl (fun c9 => ?_) (fun c9 => ?_)
      ·have c9p := of_decide_eq_true c9
       obtain ⟨z1, z2, z3⟩ := laid_cell (src := t.go) (p := keepG) sog rfl hsl c9p
       have r1 := hk.gl (i := ((laidF (t.go.map goRow) og r).2.getD s 0).toNat) (by omega)
       refine wc_held 18 18 (fun W => Holds w [Blk b11 41 [.int .i64 k, .int .i64 r, .slice Ad ((t.mv.map usualF)).length cd, .slice Ab ((laidF (t.mv.map pkRow) om k).1).length cb2, .slice Ac ((laidF (t.mv.map pkRow) om k).2).length cc, .slice A121 (laidF (t.mv.map pkRow) om k).2.length (laidF (t.mv.map pkRow) om k).2.length, .slice Agb ((laidF (t.go.map goRow) og r).1).length cgb, .slice Agc ((laidF (t.go.map goRow) og r).2).length cgc, .slice A155 (laidF (t.go.map goRow) og r).2.length (laidF (t.go.map goRow) og r).2.length], Row (fInt .i64) 3 (.slice Agb ((laidF (t.go.map goRow) og r).1).length cgb) ((laidF (t.go.map goRow) og r).1), Blk b4 25 [.slice A t.mv.length ca, .slice B t.go.length cb]] W) mixed (by kernel_rfl) (fun _ _ _ h => h) ?_
       have Hd := H.drew
       refine wh_v rfl (Hd.pm (by repeat constructor)) rfl rfl rfl (fun W HW => v_fb (o2 := 8) fa41_8 rfl rfl) ?_
       refine wh_v rfl (Hd.pm (by repeat constructor)) rfl rfl rfl (fun W HW => v_load one39 rfl (HW.at (by repeat constructor) rfl)) ?_
       refine wh_v rfl (Hd.pm (by repeat constructor)) rfl rfl rfl (fun W HW => v_move rfl) ?_
       refine wh_v rfl (Hd.pm (by repeat constructor)) rfl rfl rfl (fun W HW => v_fb (o2 := 1) fa25_1 rfl rfl) ?_
       refine wh_v rfl (Hd.pm (by repeat constructor)) rfl rfl rfl (fun W HW => v_load one23 rfl (HW.at (by repeat constructor) rfl)) ?_
       refine wh_v rfl (Hd.pm (by repeat constructor)) rfl rfl rfl (fun W HW => v_move rfl) ?_
       refine wh_v rfl (Hd.pm (by repeat constructor)) rfl rfl rfl (fun W HW => v_idx Try.underlying23 sz39 hG.ad rfl rfl (by omega) (by omega)) ?_
       obtain ⟨B174, cp174, hc174, hl174, hr174⟩ := hG.atSl (i := ((laidF (t.go.map goRow) og r).2.getD s 0)) (by omega) (by omega)
       refine wh_v rfl (Hd.pm (by repeat constructor)) rfl rfl rfl (fun W HW => v_load one39 rfl (HW.cell (hc174))) ?_
       refine wh_v rfl (Hd.pm (by repeat constructor)) rfl rfl rfl (fun W HW => v_move rfl) ?_
       refine wh_v rfl (Hd.pm (by repeat constructor)) rfl rfl rfl (fun W HW => v_fb (o2 := 6) fa41_6 rfl rfl) ?_
       refine wh_v rfl (Hd.pm (by repeat constructor)) rfl rfl rfl (fun W HW => v_load one39 rfl (HW.at (by repeat constructor) rfl)) ?_
       refine wh_v rfl (Hd.pm (by repeat constructor)) rfl rfl rfl (fun W HW => v_move rfl) ?_
       refine wh_v rfl (Hd.pm (by repeat constructor)) rfl rfl rfl (fun W HW => v_idx Try.underlying39 sz3 (HW.rrd (f := fInt .i64) (e := 3) (A := Agb) (xs := (laidF (t.go.map goRow) og r).1) (by repeat constructor)).ad rfl rfl (by omega) (by omega)) ?_
       refine wh_v rfl (Hd.pm (by repeat constructor)) rfl rfl rfl (fun W HW => v_load one3 rfl ((HW.rrd (f := fInt .i64) (e := 3) (A := Agb) (xs := (laidF (t.go.map goRow) og r).1) (by repeat constructor)).at1 (by omega) (by omega))) ?_
       refine wh_v rfl (Hd.pm (by repeat constructor)) rfl rfl rfl (fun W HW => v_subi rfl rfl (by omega)) ?_
       refine wh_v rfl (Hd.pm (by repeat constructor)) rfl rfl rfl (fun W HW => v_idx Try.underlying39 sz3 hr174.ad rfl rfl (by omega) (by omega)) ?_
       refine wh_v rfl (Hd.pm (by repeat constructor)) rfl rfl rfl (fun W HW => v_load one3 rfl (HW.cell (hr174.at1 (by omega) (by omega)))) ?_
       refine wh_v rfl (Hd.pm (by repeat constructor)) rfl rfl rfl (fun W HW => v_idx Try.underlying39 sz3 hcellad rfl rfl (by omega) (by omega)) ?_
       refine wh_t rfl ?_
       refine wl_storeR (f := fInt .i64) (xs := cellsUpto 0 (laidF (t.go.map goRow) og r).2 (laidF (t.go.map goRow) og r).1 t.go s) (i := (s : Int)) (x' := (t.go.getD ((laidF (t.go.map goRow) og r).2.getD s 0).toNat []).getD ((s : Int) - (laidF (t.go.map goRow) og r).1.getD ((laidF (t.go.map goRow) og r).2.getD s 0).toNat 0).toNat 0) Hd (by repeat constructor) sz3 rfl rfl rfl (by omega) (by omega) ?_
       intro w54 H54
       refine wl_nil (tn ⟨fun hlt => absurd hlt (by decide), ?_⟩)
       refine wh_nil ?_
       refine wc_region ?_
       refine wl_v rfl rfl rfl (v_addi rfl rfl (by omega)) ?_
       refine wl_v rfl rfl rfl (v_move rfl) ?_
       refine wl_nil ?_
       first
         | exact ⟨s + 1, (sc rfl (sc rfl (sc rfl (sc rfl (sc rfl (sc rfl (sn _))))))), ⟨by omega, by rw [cellsUpto_next hsl, hgd, if_pos c9p]; exact H54.pm (by repeat constructor)⟩, by omega⟩
         | exact ⟨s + 1, (sc rfl (sc rfl (sc rfl (sc rfl (sc rfl (sc rfl (sn _))))))), ⟨by omega, by rw [cellsUpto_skip hsl (by rw [hgd]; exact c9p)]; exact H54.pm (by repeat constructor)⟩, by omega⟩
      ·have c9p := of_decide_eq_false c9
       refine wc_skip ?_
       refine wc_region ?_
       refine wl_v rfl rfl rfl (v_addi rfl rfl (by omega)) ?_
       refine wl_v rfl rfl rfl (v_move rfl) ?_
       refine wl_nil ?_
       first
         | exact ⟨s + 1, (sc rfl (sc rfl (sc rfl (sc rfl (sc rfl (sc rfl (sn _))))))), ⟨by omega, by rw [cellsUpto_next hsl, hgd, if_pos c9p]; exact H.pm (by repeat constructor)⟩, by omega⟩
         | exact ⟨s + 1, (sc rfl (sc rfl (sc rfl (sc rfl (sc rfl (sc rfl (sn _))))))), ⟨by omega, by rw [cellsUpto_skip hsl (by rw [hgd]; exact c9p)]; exact H.pm (by repeat constructor)⟩, by omega⟩
     ·have c8p := of_decide_eq_false c8
      have hje : s = (laidF (t.go.map goRow) og r).2.length := by omega
      subst hje
      refine wc_exit ?_
      refine wc_seq ?_
      refine wc_region ?_
      refine wl_v rfl rfl rfl (v_loadN agg41 rfl rfl (H.ats (by repeat constructor))) ?_
      refine wl_store (vs := [_, _, _, _, _, _, _, _, _]) H (by repeat constructor) sz41 rfl rfl rfl rfl rfl (by (repeat constructor)) ?_
      intro w55 H56 hw55
      refine wl_v rfl rfl rfl (v_assign rfl) ?_
      refine wl_nil ?_
      refine wc_ret ?_
      first
        | exact ⟨_, resc2 rfl rfl (run_loadVarN agg41 rfl (H56.ats (by repeat constructor))) rfl, ⟨none, none, none, none, none, none, none, 0, 0, 0, 0, 0, 0, 0⟩, by rw [pkAns, if_neg c0p]; rfl, by rw [pkAns, if_neg c0p]; exact (((((((H56.nilrow 48 2).nilrow 3 1).nilrow 3 1).nilrow 48 2).nilrow 3 1).nilrow 3 1).nilrow 3 1).pm (by repeat constructor)⟩
        | (have hcl1 := cellsUpto_len (z := mv0) (check := (laidF (t.mv.map pkRow) om k).2) (base := (laidF (t.mv.map pkRow) om k).1) (rows := t.mv) (Nat.le_refl _)
           have hcl2 := cellsUpto_len (z := (0 : Int)) (check := (laidF (t.go.map goRow) og r).2) (base := (laidF (t.go.map goRow) og r).1) (rows := t.go) (Nat.le_refl _)
           refine ⟨_, resc2 rfl rfl (run_loadVarN agg41 rfl (H56.ats (by repeat constructor))) rfl, ⟨Ad, Ab, Ac, A121, Agb, Agc, A155, cd, cb2, cc, (laidF (t.mv.map pkRow) om k).2.length, cgb, cgc, (laidF (t.go.map goRow) og r).2.length⟩, ?_, ?_⟩
           · rw [show pkAns t k r p om og = packF t k r om og by rw [pkAns, if_pos c0p], c0p]
             simp only [Pk.val, packF, hcl1, hcl2]
           · rw [show pkAns t k r p om og = packF t k r om og by rw [pkAns, if_pos c0p]]
             simp only [OwnP, packF, hcl1, hcl2]
             exact H56.pm (by repeat constructor))
end Go.Proofs.Ytkpehkadammppaa.PackW

/-! sort.SliceStable at one element or none. -/
namespace Go.Proofs.Ytkpehkadammppaa.SortT
open Go Go.RowKit Go.Proofs.YtkpehkadammppaaFx 
theorem agg147 : Agg Try.prog 147 3 := agg_of Try.underlying147 (by kernel_rfl)
theorem agg152 : Agg Try.prog 152 2 := agg_of Try.underlying152 (by kernel_rfl)
theorem ba152 : BuildAt Try.prog 152 [.nilFunc, .nilFunc] [(0, 1), (1, 1)] := build_at Try.underlying152 (by kernel_rfl) (by kernel_rfl)
theorem en73 : Enters Try.prog 73 := enters Try.func73 (by kernel_rfl) rfl
theorem en88 : Enters Try.prog 88 := enters Try.func88 (by kernel_rfl) rfl
theorem sz147 : ∀ W, (sizeOf 147).run Try.prog W = .ok 3 W := size_of (by kernel_rfl)
theorem zv147 : ∀ W, (zeroValue 147).run Try.prog W = .ok (.agg #[.pointer none, .pointer none, .int .u64 0]) W := zero_of (by kernel_rfl)

open Go.Lib Go.Extern in
theorem valueOf_run {A : Option Addr} {n c : Nat} (w : World) : (callFunc 71 #[.iface 39 (.slice A n c)]).run Try.prog w = .ok (.value (.agg #[typeHandle Try.prog 39, .pointer (some ⟨w.heap.size, 0, none⟩), .int .u64 151])) (w.alloc (.cells #[.slice A n c] 39)) := by
  have h : (Try.prog.info? 39).map (·.desc) = some (.slice 3) := by kernel_rfl
  obtain ⟨i, hi, hd⟩ := Option.map_eq_some_iff.1 h
  rw [run_callFunc_extern Try.func71 (by kernel_rfl) (by kernel_rfl) (by kernel_rfl) (e := fun args => ReflectliteValue.unpack (args.getD 0 (.tuple #[]))) (by kernel_rfl)]
  rw [show Sem.run Try.prog ((fun args : Array Value => ReflectliteValue.unpack (args.getD 0 (.tuple #[]))) #[.iface 39 (.slice A n c)]) w = _ from run_valueOf_slice (P := Try.prog) 39 3 i hi hd A n c w]
  rfl
open Go.Lib Go.Extern in
theorem valueLen_run {A : Option Addr} {n c : Nat} {a : Addr} (w : World) (ha : w.cell? a = some (.slice A n c)) : (callFunc 74 #[.agg #[typeHandle Try.prog 39, .pointer (some a), .int .u64 151]]).run Try.prog w = .ok (.value (.int .i64 n)) w := by
  have h : (Try.prog.info? 39).map (·.desc) = some (.slice 3) := by kernel_rfl
  obtain ⟨i, hi, hd⟩ := Option.map_eq_some_iff.1 h
  rw [run_callFunc_extern Try.func74 (by kernel_rfl) (by kernel_rfl) (by kernel_rfl) (e := ReflectliteValue.method (ReflectliteValue.valueError "reflectlite.Value.Len" 0) ReflectliteValue.len) (by kernel_rfl),
    run_valueLen_slice (P := Try.prog) 39 3 i hi hd (by kernel_rfl) a A n c w ha]
  rfl
set_option maxRecDepth 100000 in
open Go.Lib Go.Extern in
theorem swapper_run {A : Option Addr} {n c : Nat} (w : World) : ∃ f b, (callFunc 72 #[.iface 39 (.slice A n c)]).run Try.prog w = .ok (.value (.func (.func f) #[] b)) w ∧ (2 ≤ n → f = 83 ∧ b = #[.slice A n c, typeHandle Try.prog 3]) := by
  have h : (Try.prog.info? 39).map (·.desc) = some (.slice 3) := by kernel_rfl
  obtain ⟨i, hi, hd⟩ := Option.map_eq_some_iff.1 h
  have h2 : (Try.prog.info? 3).map (fun j => (j.desc, j.str, j.hasPointers, j.bytes)) = some (.int .i64, "int", false, 8) := by kernel_rfl
  obtain ⟨ie, hie, hk⟩ := Option.map_eq_some_iff.1 h2
  simp only [Prod.mk.injEq] at hk
  obtain ⟨k1, k2, k3, k4⟩ := hk
  have hke : ∀ w, (Rtype.kind 3).run Try.prog w = .ok 2 w := fun w => by simp [Rtype.kind, Rtype.under, typeInfo, hie, k1, k2, Result.andThen]
  have hx := fun f hf => run_callFunc_extern Try.func72 (by kernel_rfl) (by kernel_rfl) (by kernel_rfl) (e := ReflectliteSwapper.swapper "internal/reflectlite" (ReflectliteValue.valueError "Swapper")) (by kernel_rfl) #[.iface 39 (.slice A n c)] w |>.trans (congrArg (fun r => Result.andThen r fun v w' => Result.ok (Next.value v) w') (run_swapper_slice (P := Try.prog) 39 3 i ie hi hd hie 2 hke A n c f hf w))
  rcases (by omega : n = 0 ∨ n = 1 ∨ 2 ≤ n) with rfl | rfl | hn
  · exact ⟨79, _, hx 79 (by kernel_rfl), fun h => by omega⟩
  · exact ⟨80, _, hx 80 (by kernel_rfl), fun h => by omega⟩
  · have hK : swapperK n ie 2 = 5 := by
      have c : (n == 0) = false := by simp; omega
      have d : (n == 1) = false := by simp; omega
      simp [swapperK, k3, k4, c, d]
    refine ⟨83, _, hx 83 (by rw [hK]; kernel_rfl), fun _ => ⟨rfl, by rw [hK]; rfl⟩⟩

set_option maxRecDepth 100000 in
theorem insertion_none {lf sf : Value} {a b : Int} {w : World} (h1 : lf.oneCell' = true) (h2 : sf.oneCell' = true) (hab : b ≤ a + 1) (ha : 0 ≤ a ∧ a ≤ 1099511627776) :
    Calls Try.prog 88 #[.agg #[lf, sf], .int .i64 a, .int .i64 b] w fun e w' => ∃ v, e = .returned v ∧ v = .tuple #[] ∧ Holds w [] w' := by
  refine calls_of Try.func88 rfl Try.ntmps88 rfl ?_
  have H := Holds.start w
  refine wc_seq ?_
  refine wc_region ?_
  refine wl_box (cs := [_, _]) H rfl rfl rfl ?_
  intro b3 w1 hb3 H2
  refine wl_nil ?_
  refine wc_seq ?_
  refine wc_region ?_
  refine wl_v rfl rfl rfl (v_move rfl) ?_
  refine wl_v rfl rfl rfl (v_addi rfl rfl (by omega)) ?_
  refine wl_v rfl rfl rfl (v_assign rfl) ?_
  refine wl_nil ?_
  refine wc_block ?_
  refine wc_loop (σ := Nat) (fun s => [(2, .int .i64 b), (6, .int .i64 (a + 1))]) (fun s W => Holds w [] W) (fun s => s) 0 (sc rfl (sc rfl (sn _))) (H2.pm (Pm.nil _)) ?_
  rintro i W0 H
  refine wc_seq ?_
  refine wc_seq ?_
  refine wc_region ?_
  refine wl_v rfl rfl rfl (v_move rfl) ?_
  refine wl_v rfl rfl rfl (v_move rfl) ?_
  refine wl_v rfl rfl rfl (v_lss rfl rfl) ?_
  refine wl_nil ?_
  refine wc_cond rfl (fun c0 => ?_) (fun c0 => ?_)
  ·have c0p := of_decide_eq_true c0
   exact absurd c0p (by omega)
  ·have c0p := of_decide_eq_false c0
   refine wc_exit ?_
   exact ⟨_, res0 rfl, rfl, H⟩

set_option maxRecDepth 100000 in
theorem stable_none {lf sf : Value} {b : Int} {w : World} (h1 : lf.oneCell' = true) (h2 : sf.oneCell' = true) (hb : b ≤ 1) :
    Calls Try.prog 73 #[.agg #[lf, sf], .int .i64 b] w fun e w' => ∃ v, e = .returned v ∧ v = .tuple #[] ∧ Holds w [] w' := by
  refine calls_of Try.func73 rfl Try.ntmps73 rfl ?_
  have H := Holds.start w
  refine wc_seq ?_
  refine wc_region ?_
  refine wl_box (cs := [_, _]) H rfl rfl rfl ?_
  intro b2 w1 hb2 H2
  refine wl_nil ?_
  refine wc_seq ?_
  refine wc_region ?_
  refine wl_v rfl rfl rfl (v_assign rfl) ?_
  refine wl_nil ?_
  refine wc_seq ?_
  refine wc_region ?_
  refine wl_v rfl rfl rfl (v_move rfl) ?_
  refine wl_v rfl rfl rfl (v_assign rfl) ?_
  refine wl_v rfl rfl rfl (v_assign rfl) ?_
  refine wl_nil ?_
  refine wc_seq ?_
  refine wc_block ?_
  refine wc_loop (σ := Nat) (fun s => [(1, .int .i64 b), (2, .pointer (some ⟨b2, 0, none⟩)), (4, .int .i64 20), (5, .int .i64 0), (6, .int .i64 20)]) (fun s W => Holds w [Blk b2 152 [lf, sf]] W) (fun s => s) 0 (sc rfl (sc rfl (sc rfl (sc rfl (sc rfl (sn _)))))) H2 ?_
  rintro i W0 H
  refine wc_seq ?_
  refine wc_seq ?_
  refine wc_region ?_
  refine wl_v rfl rfl rfl (v_move rfl) ?_
  refine wl_v rfl rfl rfl (v_move rfl) ?_
  refine wl_v rfl rfl rfl (v_leq rfl rfl) ?_
  refine wl_nil ?_
  refine wc_cond rfl (fun c0 => ?_) (fun c0 => ?_)
  ·have c0p := of_decide_eq_true c0
   exact absurd c0p (by omega)
  ·have c0p := of_decide_eq_false c0
   refine wc_exit ?_
   refine wc_seq ?_
   refine wc_region ?_
   refine wl_v rfl rfl rfl (v_loadN agg152 rfl rfl (H.ats (by repeat constructor))) ?_
   refine wl_v rfl rfl rfl (v_move rfl) ?_
   refine wl_v rfl rfl rfl (v_move rfl) ?_
   refine wl_call en88 rfl rfl (insertion_none h1 h2 (by omega) (by omega)) ?_
   rintro _ w3 ⟨rfl, Hc⟩
   have H4 := H.call Hc
   refine wl_nil ?_
   refine wc_block ?_
   refine wc_loop (σ := Nat) (fun s => [(1, .int .i64 b), (4, .int .i64 20)]) (fun s W => Holds w [] W) (fun s => s) 0 (sc rfl (sc rfl (sn _))) (H4.pm (Pm.nil _)) ?_
   rintro i W1 H
   refine wc_seq ?_
   refine wc_seq ?_
   refine wc_region ?_
   refine wl_v rfl rfl rfl (v_move rfl) ?_
   refine wl_v rfl rfl rfl (v_move rfl) ?_
   refine wl_v rfl rfl rfl (v_lss rfl rfl) ?_
   refine wl_nil ?_
   refine wc_cond rfl (fun c1 => ?_) (fun c1 => ?_)
   ·have c1p := of_decide_eq_true c1
    exact absurd c1p (by omega)
   ·have c1p := of_decide_eq_false c1
    refine wc_exit ?_
    exact ⟨_, res0 rfl, rfl, H⟩

set_option maxRecDepth 100000 in
theorem sort_tiny {A : Option Addr} {m c g : Nat} {cap : Array Value} {w : World} (hm : m ≤ 1) :
    Calls Try.prog 56 #[.iface 39 (.slice A m c), .func (.func g) #[] cap] w fun e w' => ∃ v, e = .returned v ∧ v = .tuple #[] ∧ Holds w [] w' := by
  refine calls_of Try.func56 rfl Try.ntmps56 rfl ?_
  have H := Holds.start w
  refine wc_seq ?_
  refine wc_region ?_
  refine wl_v rfl rfl rfl (v_move rfl) ?_
  refine wl_ext (vs := [.iface 39 (.slice A m c)]) rfl rfl (valueOf_run _) ?_
  have H1 := H.alloc 39 [.slice A m c]
  generalize hbw : w.heap.size = b7 at H1 ⊢
  refine wl_alloc (cs := [.pointer none, .pointer none, .int .u64 0]) H1 rfl zv147 rfl ?_
  intro b4 w2 hb4 H3
  refine wl_store (vs := [_, _, _]) H3 (by repeat constructor) sz147 rfl rfl rfl rfl rfl (by (repeat constructor)) ?_
  intro w4 H5 hw4
  refine wl_nil ?_
  refine wc_seq ?_
  refine wc_region ?_
  refine wl_v rfl rfl rfl (v_move rfl) ?_
  obtain ⟨fs, sb, hsw, _⟩ := swapper_run (A := A) (n := m) (c := c) _
  refine wl_ext (vs := [.iface 39 (.slice A m c)]) rfl rfl hsw ?_
  refine wl_v rfl rfl rfl (v_assign rfl) ?_
  refine wl_nil ?_
  refine wc_region ?_
  refine wl_v rfl rfl rfl (v_move rfl) ?_
  refine wl_v rfl rfl rfl (v_move rfl) ?_
  refine wl_v rfl rfl rfl (v_bld ba152 rfl (by repeat constructor)) ?_
  refine wl_v rfl rfl rfl (v_loadN agg147 rfl rfl (H5.ats (by repeat constructor))) ?_
  refine wl_ext (vs := [.agg #[typeHandle Try.prog 39, .pointer (some ⟨b7, 0, none⟩), .int .u64 151]]) rfl rfl (valueLen_run _ (H5.at (by repeat constructor) rfl)) ?_
  refine wl_call en73 rfl rfl (stable_none rfl rfl (by omega)) ?_
  rintro _ w8 ⟨rfl, Hc⟩
  have H9 := H5.call Hc
  refine wl_nil ?_
  exact ⟨_, res0 rfl, rfl, H9.pm (Pm.nil _)⟩
end Go.Proofs.Ytkpehkadammppaa.SortT
