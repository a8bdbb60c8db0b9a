/- What the document's Pack makes. -/
import Derived.Test.YtkpehkadammppaaProg
import Derived.Test.YtkpehkadammppaaScat
import Derived.Test.YtkpehkadammppaaLayW
import Derived.Test.YtkpehkadammppaaTabB
import Derived.Test.YtkpehkadammppaaRUsualW
set_option linter.unusedVariables false
set_option linter.unusedSimpArgs false
namespace Go.Proofs.Ytkpehkadammppaa.RPackW
open Go Go.RowKit Go.Proofs.YtkpehkadammppaaFx Go.Proofs.Ytkpehkadammppaa.Free Go.Proofs.Ytkpehkadammppaa.LayW Go.Proofs.Ytkpehkadammppaa.TabB Go.Proofs.Ytkpehkadammppaa.RUsualW
theorem agg25 : Agg Try.prog 25 2 := agg_of Try.underlying25 (by kernel_rfl)
theorem agg41 : Agg Try.prog 41 9 := agg_of Try.underlying41 (by kernel_rfl)
theorem agg48 : Agg Try.prog 48 2 := agg_of Try.underlying48 (by kernel_rfl)
theorem ba41 : BuildAt Try.prog 41 [.int .i64 0, .int .i64 0, .slice none 0 0, .slice none 0 0, .slice none 0 0, .slice none 0 0, .slice none 0 0, .slice none 0 0, .slice none 0 0] [(0, 1), (1, 1), (2, 1), (3, 1), (4, 1), (5, 1), (6, 1), (7, 1), (8, 1)] := build_at Try.underlying41 (by kernel_rfl) (by kernel_rfl)
theorem ba93 : BuildAt Try.prog 93 [.int .i64 0, .int .i64 0, .int .i64 0, .int .i64 0] [(0, 1), (1, 2), (3, 1)] := build_at Try.underlying93 (by kernel_rfl) (by kernel_rfl)
theorem en13 : Enters Try.prog 13 := enters Try.func13 (by kernel_rfl) rfl
theorem en35 : Enters Try.prog 35 := enters Try.func35 (by kernel_rfl) rfl
theorem en42 : Enters Try.prog 42 := enters Try.func42 (by kernel_rfl) rfl
theorem eqm48 : EqlMv Try.prog 48 := eql_mv (e := 3) Try.underlying48 (by kernel_rfl) (by kernel_rfl) Try.underlying3 rfl rfl
theorem fa25_0 : FieldAt Try.prog 25 0 0 := field_at (sz := 0) Try.underlying25 rfl (by kernel_rfl) rfl
theorem fa25_1 : FieldAt Try.prog 25 1 1 := field_at (sz := 0) Try.underlying25 rfl (by kernel_rfl) rfl
theorem fa41_2 : FieldAt Try.prog 41 2 2 := field_at (sz := 0) Try.underlying41 rfl (by kernel_rfl) rfl
theorem fa41_3 : FieldAt Try.prog 41 3 3 := field_at (sz := 0) Try.underlying41 rfl (by kernel_rfl) rfl
theorem fa41_4 : FieldAt Try.prog 41 4 4 := field_at (sz := 0) Try.underlying41 rfl (by kernel_rfl) rfl
theorem fa41_5 : FieldAt Try.prog 41 5 5 := field_at (sz := 0) Try.underlying41 rfl (by kernel_rfl) rfl
theorem fa41_6 : FieldAt Try.prog 41 6 6 := field_at (sz := 0) Try.underlying41 rfl (by kernel_rfl) rfl
theorem fa41_7 : FieldAt Try.prog 41 7 7 := field_at (sz := 0) Try.underlying41 rfl (by kernel_rfl) rfl
theorem fa41_8 : FieldAt Try.prog 41 8 8 := field_at (sz := 0) Try.underlying41 rfl (by kernel_rfl) rfl
theorem fa48_0 : FieldAt Try.prog 48 0 0 := field_at (sz := 0) Try.underlying48 rfl (by kernel_rfl) rfl
theorem fa93_0 : FieldAt Try.prog 93 0 0 := field_at (sz := 0) Try.underlying93 rfl (by kernel_rfl) rfl
theorem fa93_1 : FieldAt Try.prog 93 1 1 := field_at (sz := 1) Try.underlying93 rfl (by kernel_rfl) rfl
theorem fa93_2 : FieldAt Try.prog 93 2 3 := field_at (sz := 0) Try.underlying93 rfl (by kernel_rfl) rfl
theorem info3 : (Try.prog.info? 3).map (fun i => (i.zero, i.size, i.bytes)) = some (some (.int .i64 0), 1, 8) := by kernel_rfl
theorem info48 : (Try.prog.info? 48).map (fun i => (i.zero, i.size, i.bytes)) = some (some (.agg #[.int .i64 0, .int .i64 0]), 2, 16) := by kernel_rfl
theorem info91 : (Try.prog.info? 91).map (fun i => (i.zero, i.size, i.bytes)) = some (some (.slice none 0 0), 1, 24) := by kernel_rfl
theorem info93 : (Try.prog.info? 93).map (fun i => (i.zero, i.size, i.bytes)) = some (some (.agg #[.int .i64 0, .int .i64 0, .int .i64 0, .int .i64 0]), 4, 32) := by kernel_rfl
theorem mixed : Try.prog.follows .mixedOrders = true := by kernel_rfl
theorem one22 : One Try.prog 22 := one_of Try.underlying22 rfl (by kernel_rfl)
theorem one23 : One Try.prog 23 := one_of Try.underlying23 rfl (by kernel_rfl)
theorem one3 : One Try.prog 3 := one_of Try.underlying3 rfl (by kernel_rfl)
theorem one38 : One Try.prog 38 := one_of Try.underlying38 rfl (by kernel_rfl)
theorem one39 : One Try.prog 39 := one_of Try.underlying39 rfl (by kernel_rfl)
theorem one91 : One Try.prog 91 := one_of Try.underlying91 rfl (by kernel_rfl)
theorem sz3 : ∀ W, (sizeOf 3).run Try.prog W = .ok 1 W := size_of (by kernel_rfl)
theorem sz38 : ∀ W, (sizeOf 38).run Try.prog W = .ok 1 W := size_of (by kernel_rfl)
theorem sz39 : ∀ W, (sizeOf 39).run Try.prog W = .ok 1 W := size_of (by kernel_rfl)
theorem sz41 : ∀ W, (sizeOf 41).run Try.prog W = .ok 9 W := size_of (by kernel_rfl)
theorem sz48 : ∀ W, (sizeOf 48).run Try.prog W = .ok 2 W := size_of (by kernel_rfl)
theorem sz91 : ∀ W, (sizeOf 91).run Try.prog W = .ok 1 W := size_of (by kernel_rfl)
theorem sz93 : ∀ W, (sizeOf 93).run Try.prog W = .ok 4 W := size_of (by kernel_rfl)
theorem zv41 : ∀ W, (zeroValue 41).run Try.prog W = .ok (.agg #[.int .i64 0, .int .i64 0, .slice none 0 0, .slice none 0 0, .slice none 0 0, .slice none 0 0, .slice none 0 0, .slice none 0 0, .slice none 0 0]) W := zero_of (by kernel_rfl)
theorem zv48 : ∀ W, (zeroValue 48).run Try.prog W = .ok (.agg #[.int .i64 0, .int .i64 0]) W := zero_of (by kernel_rfl)
theorem zv91 : ∀ W, (zeroValue 91).run Try.prog W = .ok (.slice none 0 0) W := zero_of (by kernel_rfl)
theorem zv93 : ∀ W, (zeroValue 93).run Try.prog W = .ok (.agg #[.int .i64 0, .int .i64 0, .int .i64 0, .int .i64 0]) W := zero_of (by kernel_rfl)

set_option maxHeartbeats 1600000 in
set_option maxRecDepth 100000 in
theorem rpack_calls {A B : Option Addr} {ca cb : Nat} {t : Tb} {k r p : Int} {w : World} (hx : t.rd w A B) (hk : t.ok) (ik : I64 k) (ir : I64 r) (ip : I64 p) (hbig : TGood t k r p → t.mv.length * k.toNat ≤ 1099511627776 ∧ t.go.length * r.toNat ≤ 1099511627776 ∧ k ≤ 1099511627776 ∧ r ≤ 1099511627776) :
    Calls Try.prog 17 #[t.val A B ca cb, .int .i64 k, .int .i64 r, .int .i64 p] w fun e w' => ∃ v, e = .returned v ∧ ∃ a : PkA, v = .tuple #[(pkAns t k r p (ordF (t.mv.map pkRow)) (ordF (t.go.map goRow))).val a, .int .i64 (checkF t k r p)] ∧ Holds w (OwnP a (pkAns t k r p (ordF (t.mv.map pkRow)) (ordF (t.go.map goRow)))) w' := by
  have hM := hx.m
  have hG := hx.g
  have q1 := hk.m'
  have q2 := hk.g'
  refine calls_of Try.func17 rfl Try.ntmps17 rfl ?_
  have H := Holds.start w
  refine wc_seq ?_
  refine wc_region ?_
  refine wl_box (cs := [_, _]) H rfl rfl rfl ?_
  intro b4 w1 hb4 H2
  refine wl_alloc (cs := [.int .i64 0, .int .i64 0, .slice none 0 0, .slice none 0 0, .slice none 0 0, .slice none 0 0, .slice none 0 0, .slice none 0 0, .slice none 0 0]) H2 rfl zv41 rfl ?_
  intro b8 w3 hb8 H4
  refine wl_v rfl rfl rfl (v_assign rfl) ?_
  refine wl_nil ?_
  refine wc_seq ?_
  refine wc_region ?_
  refine wl_v rfl rfl rfl (v_loadN agg25 rfl rfl (H4.ats (by repeat constructor))) ?_
  refine wl_v rfl rfl rfl (v_move rfl) ?_
  refine wl_v rfl rfl rfl (v_move rfl) ?_
  refine wl_v rfl rfl rfl (v_move rfl) ?_
  refine wl_call en13 rfl rfl (rcheck_calls (hx.below H4.old) hk ik ir ip) ?_
  rintro _ w5 ⟨rfl, Hc⟩
  have H6 := H4.call Hc
  refine wl_v rfl rfl rfl (v_assign rfl) ?_
  refine wl_nil ?_
  refine wc_seq ?_
  refine wc_seq ?_
  refine wc_region ?_
  refine wl_v rfl rfl rfl (v_move rfl) ?_
  refine wl_v rfl rfl rfl (v_neq rfl rfl) ?_
  refine wl_nil ?_
  refine wc_cond rfl (fun c0 => ?_) (fun c0 => ?_)
  · have c0p := of_nd_t c0
    refine wc_seq ?_
    refine wc_region ?_
    refine wl_v rfl rfl rfl (v_bld ba41 rfl (by repeat constructor)) ?_
    refine wl_v rfl rfl rfl (v_move rfl) ?_
    refine wl_store (vs := [_, _, _, _, _, _, _, _, _]) H6 (by repeat constructor) sz41 rfl rfl rfl rfl rfl (by repeat constructor) ?_
    intro w7 H8 hw7
    refine wl_v rfl rfl rfl (v_assign rfl) ?_
    refine wl_nil ?_
    refine wc_ret ?_
    first
      | exact ⟨_, resc2 rfl rfl (run_loadVarN agg41 rfl (H8.ats (by repeat constructor))) rfl, ⟨none, none, none, none, none, none, none, 0, 0, 0, 0, 0, 0, 0⟩, by rw [pkAns, if_neg c0p]; rfl, by rw [pkAns, if_neg c0p]; exact (((((((H8.nilrow 48 2).nilrow 3 1).nilrow 3 1).nilrow 48 2).nilrow 3 1).nilrow 3 1).nilrow 3 1).pm (by repeat constructor)⟩
      | (refine ⟨_, resc2 rfl rfl (run_loadVarN agg41 rfl (H8.ats (by repeat constructor))) rfl, ⟨Ad, Ab, Ac, A136, Agb, Agc, A141, cd, cb2, cc, (laidF (atss (t.mv.map mEnts)) (ordF (atss (t.mv.map mEnts))) k).2.length, cgb, cgc, (laidF (atss (t.go.map gEnts)) (ordF (atss (t.go.map gEnts))) r).2.length⟩, ?_, ?_⟩
         · rw [← mEnts_atss, ← gEnts_atss, show pkAns t k r p (ordF (atss (t.mv.map mEnts))) (ordF (atss (t.go.map gEnts))) = packF t k r (ordF (atss (t.mv.map mEnts))) (ordF (atss (t.go.map gEnts))) by rw [pkAns, if_pos c0p], c0p]
           simp only [Pk.val, packF, ← mEnts_atss, ← gEnts_atss, htm, htg]
         · rw [← mEnts_atss, ← gEnts_atss, show pkAns t k r p (ordF (atss (t.mv.map mEnts))) (ordF (atss (t.go.map gEnts))) = packF t k r (ordF (atss (t.mv.map mEnts))) (ordF (atss (t.go.map gEnts))) by rw [pkAns, if_pos c0p]]
           simp only [OwnP, packF, ← mEnts_atss, ← gEnts_atss, htm, htg]
           exact H8.pm (by repeat constructor))
  · have c0p := of_nd_f c0
    obtain ⟨hna, hg⟩ := checkF_zero c0p
    obtain ⟨hb1, hb2, hb3, hb4⟩ := hbig hg
    have hgl := hg.2.2.1
    have hpm : ∀ x ∈ (atss (t.mv.map mEnts)), (∀ y ∈ x, 0 ≤ y ∧ y < k.toNat) ∧ x.length ≤ k.toNat := by rw [mEnts_atss]; exact pm_ok hg
    have hgm : ∀ x ∈ (atss (t.go.map gEnts)), (∀ y ∈ x, 0 ≤ y ∧ y < r.toNat) ∧ x.length ≤ r.toNat := by rw [gEnts_atss]; exact gm_ok hg
    have hXM : ∀ x ∈ (atss (t.mv.map mEnts)), ∀ y ∈ x, 0 ≤ y := fun x hx y hy => ((hpm x hx).1 y hy).1
    have hXG : ∀ x ∈ (atss (t.go.map gEnts)), ∀ y ∈ x, 0 ≤ y := fun x hx y hy => ((hgm x hx).1 y hy).1
    have hlm : (t.mv.map mEnts).length = t.mv.length := List.length_map ..
    have hlg : (t.go.map gEnts).length = t.go.length := List.length_map ..
    refine wc_skip ?_
    refine wc_seq ?_
    refine wc_region ?_
    refine wl_v rfl rfl rfl (v_move rfl) ?_
    refine wl_v rfl rfl rfl (v_move rfl) ?_
    refine wl_v rfl rfl rfl (v_bld ba41 rfl (by repeat constructor)) ?_
    refine wl_alloc (cs := [.int .i64 0, .int .i64 0, .slice none 0 0, .slice none 0 0, .slice none 0 0, .slice none 0 0, .slice none 0 0, .slice none 0 0, .slice none 0 0]) H6 rfl zv41 rfl ?_
    intro b11 w9 hb11 H10
    refine wl_store (vs := [_, _, _, _, _, _, _, _, _]) H10 (by repeat constructor) sz41 rfl rfl rfl rfl rfl (by repeat constructor) ?_
    intro w11 H12 hw11
    refine wl_nil ?_
    refine wc_seq ?_
    refine wc_region ?_
    refine wl_v rfl rfl rfl (v_assign rfl) ?_
    refine wl_v rfl rfl rfl (v_assign rfl) ?_
    refine wl_nil ?_
    refine wc_seq ?_
    refine wc_seq ?_
    refine wc_region ?_
    refine wl_v rfl rfl rfl (v_assign rfl) ?_
    refine wl_nil ?_
    refine wc_block ?_
    refine wc_loop (σ := Nat × (Option Addr × Nat) × (Option Addr × Nat) × (Option Addr × Nat)) (fun s => [(1, .int .i64 k), (2, .int .i64 r), (4, .pointer (some ⟨b4, 0, none⟩)), (8, .pointer (some ⟨b8, 0, none⟩)), (11, .pointer (some ⟨b11, 0, none⟩)), (12, .slice s.2.2.1.1 (((t.mv.take s.1).map mEnts)).length s.2.2.1.2), (13, .slice s.2.2.2.1 (((t.go.take s.1).map gEnts)).length s.2.2.2.2), (14, .int .i64 s.1)]) (fun s W => s.1 ≤ t.mv.length ∧ Holds w [Blk b11 41 [.int .i64 k, .int .i64 r, .slice s.2.1.1 (((t.mv.take s.1).map usualF)).length s.2.1.2, .slice none 0 0, .slice none 0 0, .slice none 0 0, .slice none 0 0, .slice none 0 0, .slice none 0 0], Row fMv 48 (.slice s.2.1.1 (((t.mv.take s.1).map usualF)).length s.2.1.2) (((t.mv.take s.1).map usualF)), RR fEn 91 93 (.slice s.2.2.1.1 (((t.mv.take s.1).map mEnts)).length s.2.2.1.2) (((t.mv.take s.1).map mEnts)), RR fEn 91 93 (.slice s.2.2.2.1 (((t.go.take s.1).map gEnts)).length s.2.2.2.2) (((t.go.take s.1).map gEnts)), Blk b8 41 [.int .i64 0, .int .i64 0, .slice none 0 0, .slice none 0 0, .slice none 0 0, .slice none 0 0, .slice none 0 0, .slice none 0 0, .slice none 0 0], Blk b4 25 [.slice A t.mv.length ca, .slice B t.go.length cb]] W) (fun s => t.mv.length - s.1) (0, (none, 0), (none, 0), (none, 0)) (sc rfl (sc rfl (sc rfl (sc rfl (sc rfl (sc rfl (sc rfl (sc rfl (sn _))))))))) ⟨Nat.zero_le _, (((H12.nilrow 48 2).rrNil fEn 91 93).rrNil fEn 91 93).pm (by repeat constructor)⟩ ?_
    rintro ⟨i, ⟨Ad, cd⟩, ⟨A12, c12⟩, ⟨A13, c13⟩⟩ W0 ⟨hi, H⟩
    dsimp only at hi H ⊢
    refine wc_seq ?_
    refine wc_seq ?_
    refine wc_region ?_
    refine wl_v rfl rfl rfl (v_move rfl) ?_
    refine wl_v rfl rfl rfl (v_fb (o2 := 0) fa25_0 rfl rfl) ?_
    refine wl_v rfl rfl rfl (v_load one22 rfl (H.at (by repeat constructor) rfl)) ?_
    refine wl_v rfl rfl rfl (v_len Try.underlying22 rfl) ?_
    refine wl_v rfl rfl rfl (v_lss rfl rfl) ?_
    refine wl_nil ?_
    refine wc_cond rfl (fun c1 => ?_) (fun c1 => ?_)
    · have c1p := of_decide_eq_true c1
      have r1 := hk.ml (i := i) (by omega)
      have r2 := hk.gl (i := i) (by omega)
      have ho := hg.2.2.2 i (by omega)
      have ho1 := ho.1
      have ho2 := ho.2.1
      refine wc_skip ?_
      refine wc_seq ?_
      refine wc_block ?_
      refine wc_seq ?_
      refine wc_region ?_
      refine wl_v rfl rfl rfl (v_fb (o2 := 0) fa25_0 rfl rfl) ?_
      refine wl_v rfl rfl rfl (v_load one22 rfl (H.at (by repeat constructor) rfl)) ?_
      refine wl_v rfl rfl rfl (v_move rfl) ?_
      refine wl_v rfl rfl rfl (v_idx Try.underlying22 sz38 hM.ad rfl rfl (by omega) (by omega)) ?_
      obtain ⟨B47, cp47, hc47, hl47, hr47⟩ := hM.atSlN (i := i) (by omega)
      refine wl_v rfl rfl rfl (v_load one38 rfl (H.cell (hc47))) ?_
      refine wl_call en35 rfl rfl (rusual_calls (hr47.below H.old) (by omega)) ?_
      rintro _ w13 ⟨rfl, Hc⟩
      have H14 := H.call Hc
      refine wl_alloc (cs := [.int .i64 0, .int .i64 0]) H14 rfl zv48 rfl ?_
      intro b15 w15 hb15 H16
      refine wl_store (vs := [_, _]) H16 (by repeat constructor) sz48 rfl rfl rfl rfl rfl (by repeat constructor) ?_
      intro w17 H18 hw17
      refine wl_nil ?_
      refine wc_seq ?_
      refine wc_region ?_
      refine wl_v rfl rfl rfl (v_fb (o2 := 2) fa41_2 rfl rfl) ?_
      refine wl_v rfl rfl rfl (v_load one38 rfl (H18.at (by repeat constructor) rfl)) ?_
      refine wl_v rfl rfl rfl (v_loadN agg48 rfl rfl (H18.ats (by repeat constructor))) ?_
      refine wl_slit (v := .agg #[.int .i64 0, .int .i64 0]) (z := [.int .i64 0, .int .i64 0]) (cs := [.int .i64 (usualF (t.mv.getD i [])).d, .int .i64 (usualF (t.mv.getD i [])).n]) (sz := 2) H18 rfl Try.underlying38 sz48 zv48 (by decide) (by decide) (by kernel_rfl) rfl (by repeat constructor) ?_
      intro b52 w19 hb52 H19 hs19
      refine wl_app1 (f := fMv) (xs := ((t.mv.take i).map usualF)) (y' := usualF (t.mv.getD i [])) H19 (fun v' => (by repeat constructor)) (by repeat constructor) rfl Try.underlying38 info48 rfl (by decide) rfl rfl rfl (by simp only [List.length_map, List.length_take]; omega) (by decide) ?_
      intro A53 c53 w20 H20 hs20
      refine wl_v rfl rfl rfl (v_fb (o2 := 2) fa41_2 rfl rfl) ?_
      refine wl_store (vs := [_]) H20 (by repeat constructor) sz38 rfl rfl rfl rfl rfl (by repeat constructor) ?_
      intro w21 H22 hw21
      refine wl_nil ?_
      refine wc_seq ?_
      refine wc_region ?_
      refine wl_v rfl rfl rfl (v_assign rfl) ?_
      refine wl_v rfl rfl rfl (v_assign rfl) ?_
      refine wl_nil ?_
      refine wc_seq ?_
      refine wc_seq ?_
      refine wc_region ?_
      refine wl_v rfl rfl rfl (v_assign rfl) ?_
      refine wl_nil ?_
      refine wc_block ?_
      refine wc_loop (σ := Nat × Option Addr × Nat) (fun s => [(1, .int .i64 k), (2, .int .i64 r), (4, .pointer (some ⟨b4, 0, none⟩)), (8, .pointer (some ⟨b8, 0, none⟩)), (11, .pointer (some ⟨b11, 0, none⟩)), (12, .slice A12 (((t.mv.take i).map mEnts)).length c12), (13, .slice A13 (((t.go.take i).map gEnts)).length c13), (14, .int .i64 i), (15, .pointer (some ⟨b15, 0, none⟩)), (16, .slice s.2.1 (mUpto (t.mv.getD i []) s.1).length s.2.2), (17, .slice none 0 0), (18, .int .i64 s.1)]) (fun s W => s.1 ≤ (t.mv.getD i []).length ∧ Holds w [Row fEn 93 (.slice s.2.1 (mUpto (t.mv.getD i []) s.1).length s.2.2) (mUpto (t.mv.getD i []) s.1), Blk b15 48 [.int .i64 (usualF (t.mv.getD i [])).d, .int .i64 (usualF (t.mv.getD i [])).n], Blk b11 41 [.int .i64 k, .int .i64 r, .slice A53 ((((t.mv.take i).map usualF) ++ [usualF (t.mv.getD i [])])).length c53, .slice none 0 0, .slice none 0 0, .slice none 0 0, .slice none 0 0, .slice none 0 0, .slice none 0 0], Row fMv 48 (.slice A53 ((((t.mv.take i).map usualF) ++ [usualF (t.mv.getD i [])])).length c53) ((((t.mv.take i).map usualF) ++ [usualF (t.mv.getD i [])])), RR fEn 91 93 (.slice A12 (((t.mv.take i).map mEnts)).length c12) (((t.mv.take i).map mEnts)), RR fEn 91 93 (.slice A13 (((t.go.take i).map gEnts)).length c13) (((t.go.take i).map gEnts)), Blk b8 41 [.int .i64 0, .int .i64 0, .slice none 0 0, .slice none 0 0, .slice none 0 0, .slice none 0 0, .slice none 0 0, .slice none 0 0, .slice none 0 0], Blk b4 25 [.slice A t.mv.length ca, .slice B t.go.length cb]] W) (fun s => (t.mv.getD i []).length - s.1) (0, none, 0) (sc rfl (sc rfl (sc rfl (sc rfl (sc rfl (sc rfl (sc rfl (sc rfl (sc rfl (sc rfl (sc rfl (sc rfl (sn _))))))))))))) ⟨Nat.zero_le _, (H22.nilrow 93 4).pm (by repeat constructor)⟩ ?_
      rintro ⟨j, A16, c16⟩ W1 ⟨hj, H⟩
      dsimp only at hj H ⊢
      have hpl := mUpto_len (t.mv.getD i []) j
      refine wc_seq ?_
      refine wc_seq ?_
      refine wc_region ?_
      refine wl_v rfl rfl rfl (v_move rfl) ?_
      refine wl_v rfl rfl rfl (v_move rfl) ?_
      refine wl_v rfl rfl rfl (v_lss rfl rfl) ?_
      refine wl_nil ?_
      refine wc_cond rfl (fun c2 => ?_) (fun c2 => ?_)
      · have c2p := of_decide_eq_true c2
        refine wc_skip ?_
        refine wc_seq ?_
        refine wc_block ?_
        refine wc_seq ?_
        refine wc_region ?_
        refine wl_v rfl rfl rfl (v_fb (o2 := 0) fa25_0 rfl rfl) ?_
        refine wl_v rfl rfl rfl (v_load one22 rfl (H.at (by repeat constructor) rfl)) ?_
        refine wl_v rfl rfl rfl (v_move rfl) ?_
        refine wl_v rfl rfl rfl (v_idx Try.underlying22 sz38 hM.ad rfl rfl (by omega) (by omega)) ?_
        obtain ⟨B64, cp64, hc64, hl64, hr64⟩ := hM.atSlN (i := i) (by omega)
        refine wl_v rfl rfl rfl (v_load one38 rfl (H.cell (hc64))) ?_
        refine wl_v rfl rfl rfl (v_move rfl) ?_
        refine wl_v rfl rfl rfl (v_idx Try.underlying38 sz48 hr64.ad rfl rfl (by omega) (by omega)) ?_
        refine wl_v rfl rfl rfl (v_loadN (cs := fMv.enc _) agg48 rfl rfl (fun k u hu => H.cell (hr64.atN (i := j) (k := k) mv0 (by omega) hu))) ?_
        refine wl_alloc (cs := [.int .i64 0, .int .i64 0]) H rfl zv48 rfl ?_
        intro b19 w23 hb19 H24
        refine wl_store (vs := [_, _]) H24 (by repeat constructor) sz48 rfl rfl rfl rfl rfl (by repeat constructor) ?_
        intro w25 H26 hw25
        refine wl_nil ?_
        refine wc_seq ?_
        refine wc_region ?_
        refine wl_v rfl rfl rfl (v_fb (o2 := 0) fa48_0 rfl rfl) ?_
        refine wl_v rfl rfl rfl (v_load one3 rfl (H26.at (by repeat constructor) rfl)) ?_
        refine wl_v rfl rfl rfl (v_neq rfl rfl) ?_
        refine wl_v rfl rfl rfl (v_move rfl) ?_
        refine wl_guard rfl rfl rfl (fun g71 => ?_) (fun g71 => ?_)
        · have g71p := of_nd_t g71
          refine wl_v rfl rfl rfl (v_loadN agg48 rfl rfl (H26.ats (by repeat constructor))) ?_
          refine wl_on' rfl rfl g71 ?_
          refine wl_v rfl rfl rfl (v_loadN agg48 rfl rfl (H26.ats (by repeat constructor))) ?_
          refine wl_on' rfl rfl g71 ?_
          refine wl_v rfl rfl rfl (v_neqm  eqm48 rfl rfl) ?_
          refine wl_v rfl rfl rfl (v_pick_t rfl g71 rfl) ?_
          refine wl_nil ?_
          refine wc_cond rfl (fun c3 => ?_) (fun c3 => ?_)
          · have c3p := of_nd_t c3
            refine wc_region ?_
            refine wl_v rfl rfl rfl (v_move rfl) ?_
            refine wl_v rfl rfl rfl (v_move rfl) ?_
            refine wl_v rfl rfl rfl (v_loadN agg48 rfl rfl (H26.ats (by repeat constructor))) ?_
            refine wl_v rfl rfl rfl (v_bld ba93 rfl (by repeat constructor)) ?_
            refine wl_slit (v := .agg #[.int .i64 0, .int .i64 0, .int .i64 0, .int .i64 0]) (z := [.int .i64 0, .int .i64 0, .int .i64 0, .int .i64 0]) (cs := [.int .i64 (j : Int), .int .i64 ((t.mv.getD i []).getD j mv0).d, .int .i64 ((t.mv.getD i []).getD j mv0).n, .int .i64 0]) (sz := 4) H26 rfl Try.underlying91 sz93 zv93 (by decide) (by decide) (by kernel_rfl) rfl (by repeat constructor) ?_
            intro b80 w27 hb80 H27 hs27
            refine wl_app1 (f := fEn) (xs := mUpto (t.mv.getD i []) j) (y' := ⟨(j : Int), (t.mv.getD i []).getD j mv0, 0⟩) H27 (fun v' => (by repeat constructor)) (by repeat constructor) rfl Try.underlying91 info93 rfl (by decide) rfl rfl rfl (by omega) (by decide) ?_
            intro A81 c81 w28 H28 hs28
            refine wl_v rfl rfl rfl (v_assign rfl) ?_
            refine wl_nil ?_
            refine wc_region ?_
            refine wl_v rfl rfl rfl (v_move rfl) ?_
            refine wl_v rfl rfl rfl (v_addi rfl rfl (by omega)) ?_
            refine wl_v rfl rfl rfl (v_assign rfl) ?_
            refine wl_nil ?_
            first
              | exact ⟨(j + 1, A81, c81), by rw [mUpto_take (by unfold keepM; rw [decide_eq_false g71p, decide_eq_false c3p]; rfl)]; exact (sc rfl (sc rfl (sc rfl (sc rfl (sc rfl (sc rfl (sc rfl (sc rfl (sc rfl (sc rfl (sc rfl (sc rfl (sn _))))))))))))), ⟨by dsimp only; omega, by rw [mUpto_take (by unfold keepM; rw [decide_eq_false g71p, decide_eq_false c3p]; rfl)]; exact H28.pm (by repeat constructor)⟩, by dsimp only; omega⟩
              | exact ⟨(j + 1, A16, c16), by rw [mUpto_skip (by unfold keepM; rw [decide_eq_true g71p, Bool.not_true, Bool.and_false])]; exact (sc rfl (sc rfl (sc rfl (sc rfl (sc rfl (sc rfl (sc rfl (sc rfl (sc rfl (sc rfl (sc rfl (sc rfl (sn _))))))))))))), ⟨by dsimp only; omega, by rw [mUpto_skip (by unfold keepM; rw [decide_eq_true g71p, Bool.not_true, Bool.and_false])]; exact H28.pm (by repeat constructor)⟩, by dsimp only; omega⟩
              | exact ⟨(j + 1, A16, c16), by rw [mUpto_skip (by unfold keepM; rw [decide_eq_true c3p, Bool.not_true, Bool.false_and])]; exact (sc rfl (sc rfl (sc rfl (sc rfl (sc rfl (sc rfl (sc rfl (sc rfl (sc rfl (sc rfl (sc rfl (sc rfl (sn _))))))))))))), ⟨by dsimp only; omega, by rw [mUpto_skip (by unfold keepM; rw [decide_eq_true c3p, Bool.not_true, Bool.false_and])]; exact H28.pm (by repeat constructor)⟩, by dsimp only; omega⟩
          · have c3p := of_nd_f c3
            refine wc_skip ?_
            refine wc_region ?_
            refine wl_v rfl rfl rfl (v_move rfl) ?_
            refine wl_v rfl rfl rfl (v_addi rfl rfl (by omega)) ?_
            refine wl_v rfl rfl rfl (v_assign rfl) ?_
            refine wl_nil ?_
            first
              | exact ⟨(j + 1, A81, c81), by rw [mUpto_take (by unfold keepM; rw [decide_eq_false g71p, decide_eq_false c3p]; rfl)]; exact (sc rfl (sc rfl (sc rfl (sc rfl (sc rfl (sc rfl (sc rfl (sc rfl (sc rfl (sc rfl (sc rfl (sc rfl (sn _))))))))))))), ⟨by dsimp only; omega, by rw [mUpto_take (by unfold keepM; rw [decide_eq_false g71p, decide_eq_false c3p]; rfl)]; exact H26.pm (by repeat constructor)⟩, by dsimp only; omega⟩
              | exact ⟨(j + 1, A16, c16), by rw [mUpto_skip (by unfold keepM; rw [decide_eq_true g71p, Bool.not_true, Bool.and_false])]; exact (sc rfl (sc rfl (sc rfl (sc rfl (sc rfl (sc rfl (sc rfl (sc rfl (sc rfl (sc rfl (sc rfl (sc rfl (sn _))))))))))))), ⟨by dsimp only; omega, by rw [mUpto_skip (by unfold keepM; rw [decide_eq_true g71p, Bool.not_true, Bool.and_false])]; exact H26.pm (by repeat constructor)⟩, by dsimp only; omega⟩
              | exact ⟨(j + 1, A16, c16), by rw [mUpto_skip (by unfold keepM; rw [decide_eq_true c3p, Bool.not_true, Bool.false_and])]; exact (sc rfl (sc rfl (sc rfl (sc rfl (sc rfl (sc rfl (sc rfl (sc rfl (sc rfl (sc rfl (sc rfl (sc rfl (sn _))))))))))))), ⟨by dsimp only; omega, by rw [mUpto_skip (by unfold keepM; rw [decide_eq_true c3p, Bool.not_true, Bool.false_and])]; exact H26.pm (by repeat constructor)⟩, by dsimp only; omega⟩
        · have g71p := of_nd_f g71
          refine wl_off rfl rfl g71 rfl ?_
          refine wl_off rfl rfl g71 rfl ?_
          refine wl_v rfl rfl rfl (v_pick_f rfl g71 rfl) ?_
          refine wl_nil ?_
          refine wc_cond_f rfl ?_
          refine wc_skip ?_
          refine wc_region ?_
          refine wl_v rfl rfl rfl (v_move rfl) ?_
          refine wl_v rfl rfl rfl (v_addi rfl rfl (by omega)) ?_
          refine wl_v rfl rfl rfl (v_assign rfl) ?_
          refine wl_nil ?_
          first
            | exact ⟨(j + 1, A81, c81), by rw [mUpto_take (by unfold keepM; rw [decide_eq_false g71p, decide_eq_false c3p]; rfl)]; exact (sc rfl (sc rfl (sc rfl (sc rfl (sc rfl (sc rfl (sc rfl (sc rfl (sc rfl (sc rfl (sc rfl (sc rfl (sn _))))))))))))), ⟨by dsimp only; omega, by rw [mUpto_take (by unfold keepM; rw [decide_eq_false g71p, decide_eq_false c3p]; rfl)]; exact H26.pm (by repeat constructor)⟩, by dsimp only; omega⟩
            | exact ⟨(j + 1, A16, c16), by rw [mUpto_skip (by unfold keepM; rw [decide_eq_true g71p, Bool.not_true, Bool.and_false])]; exact (sc rfl (sc rfl (sc rfl (sc rfl (sc rfl (sc rfl (sc rfl (sc rfl (sc rfl (sc rfl (sc rfl (sc rfl (sn _))))))))))))), ⟨by dsimp only; omega, by rw [mUpto_skip (by unfold keepM; rw [decide_eq_true g71p, Bool.not_true, Bool.and_false])]; exact H26.pm (by repeat constructor)⟩, by dsimp only; omega⟩
            | exact ⟨(j + 1, A16, c16), by rw [mUpto_skip (by unfold keepM; rw [decide_eq_true c3p, Bool.not_true, Bool.false_and])]; exact (sc rfl (sc rfl (sc rfl (sc rfl (sc rfl (sc rfl (sc rfl (sc rfl (sc rfl (sc rfl (sc rfl (sc rfl (sn _))))))))))))), ⟨by dsimp only; omega, by rw [mUpto_skip (by unfold keepM; rw [decide_eq_true c3p, Bool.not_true, Bool.false_and])]; exact H26.pm (by repeat constructor)⟩, by dsimp only; omega⟩
      · have c2p := of_decide_eq_false c2
        have hje : j = (t.mv.getD i []).length := by omega
        subst hje
        rw [show mUpto (t.mv.getD i []) (t.mv.getD i []).length = mEnts (t.mv.getD i []) from rfl] at H ⊢
        refine wc_exit ?_
        refine wc_seq ?_
        refine wc_seq ?_
        refine wc_region ?_
        refine wl_v rfl rfl rfl (v_assign rfl) ?_
        refine wl_nil ?_
        refine wc_block ?_
        refine wc_loop (σ := Nat × Option Addr × Nat) (fun s => [(1, .int .i64 k), (2, .int .i64 r), (4, .pointer (some ⟨b4, 0, none⟩)), (8, .pointer (some ⟨b8, 0, none⟩)), (11, .pointer (some ⟨b11, 0, none⟩)), (12, .slice A12 (((t.mv.take i).map mEnts)).length c12), (13, .slice A13 (((t.go.take i).map gEnts)).length c13), (14, .int .i64 i), (16, .slice A16 (mEnts (t.mv.getD i [])).length c16), (17, .slice s.2.1 (gUpto (t.go.getD i []) s.1).length s.2.2), (20, .int .i64 s.1)]) (fun s W => s.1 ≤ (t.go.getD i []).length ∧ Holds w [Row fEn 93 (.slice s.2.1 (gUpto (t.go.getD i []) s.1).length s.2.2) (gUpto (t.go.getD i []) s.1), Row fEn 93 (.slice A16 (mEnts (t.mv.getD i [])).length c16) (mEnts (t.mv.getD i [])), Blk b15 48 [.int .i64 (usualF (t.mv.getD i [])).d, .int .i64 (usualF (t.mv.getD i [])).n], Blk b11 41 [.int .i64 k, .int .i64 r, .slice A53 ((((t.mv.take i).map usualF) ++ [usualF (t.mv.getD i [])])).length c53, .slice none 0 0, .slice none 0 0, .slice none 0 0, .slice none 0 0, .slice none 0 0, .slice none 0 0], Row fMv 48 (.slice A53 ((((t.mv.take i).map usualF) ++ [usualF (t.mv.getD i [])])).length c53) ((((t.mv.take i).map usualF) ++ [usualF (t.mv.getD i [])])), RR fEn 91 93 (.slice A12 (((t.mv.take i).map mEnts)).length c12) (((t.mv.take i).map mEnts)), RR fEn 91 93 (.slice A13 (((t.go.take i).map gEnts)).length c13) (((t.go.take i).map gEnts)), Blk b8 41 [.int .i64 0, .int .i64 0, .slice none 0 0, .slice none 0 0, .slice none 0 0, .slice none 0 0, .slice none 0 0, .slice none 0 0, .slice none 0 0], Blk b4 25 [.slice A t.mv.length ca, .slice B t.go.length cb]] W) (fun s => (t.go.getD i []).length - s.1) (0, none, 0) (sc rfl (sc rfl (sc rfl (sc rfl (sc rfl (sc rfl (sc rfl (sc rfl (sc rfl (sc rfl (sc rfl (sn _)))))))))))) ⟨Nat.zero_le _, (H.nilrow 93 4).pm (by repeat constructor)⟩ ?_
        rintro ⟨j, A17, c17⟩ W2 ⟨hj, H⟩
        dsimp only at hj H ⊢
        have hpl := gUpto_len (t.go.getD i []) j
        refine wc_seq ?_
        refine wc_seq ?_
        refine wc_region ?_
        refine wl_v rfl rfl rfl (v_move rfl) ?_
        refine wl_v rfl rfl rfl (v_move rfl) ?_
        refine wl_v rfl rfl rfl (v_lss rfl rfl) ?_
        refine wl_nil ?_
        refine wc_cond rfl (fun c4 => ?_) (fun c4 => ?_)
        · have c4p := of_decide_eq_true c4
          refine wc_skip ?_
          refine wc_seq ?_
          refine wc_block ?_
          refine wc_seq ?_
          refine wc_region ?_
          refine wl_v rfl rfl rfl (v_fb (o2 := 1) fa25_1 rfl rfl) ?_
          refine wl_v rfl rfl rfl (v_load one23 rfl (H.at (by repeat constructor) rfl)) ?_
          refine wl_v rfl rfl rfl (v_move rfl) ?_
          refine wl_v rfl rfl rfl (v_idx Try.underlying23 sz39 hG.ad rfl rfl (by omega) (by omega)) ?_
          obtain ⟨B91, cp91, hc91, hl91, hr91⟩ := hG.atSlN (i := i) (by omega)
          refine wl_v rfl rfl rfl (v_load one39 rfl (H.cell (hc91))) ?_
          refine wl_v rfl rfl rfl (v_move rfl) ?_
          refine wl_v rfl rfl rfl (v_idx Try.underlying39 sz3 hr91.ad rfl rfl (by omega) (by omega)) ?_
          refine wl_v rfl rfl rfl (v_load one3 rfl (H.cell (hr91.at1N (i := j) (by omega)))) ?_
          refine wl_v rfl rfl rfl (v_geq rfl rfl) ?_
          refine wl_nil ?_
          refine wc_cond rfl (fun c5 => ?_) (fun c5 => ?_)
          · have c5p := of_decide_eq_true c5
            refine wc_region ?_
            refine wl_v rfl rfl rfl (v_move rfl) ?_
            refine wl_v rfl rfl rfl (v_move rfl) ?_
            refine wl_v rfl rfl rfl (v_fb (o2 := 1) fa25_1 rfl rfl) ?_
            refine wl_v rfl rfl rfl (v_load one23 rfl (H.at (by repeat constructor) rfl)) ?_
            refine wl_v rfl rfl rfl (v_move rfl) ?_
            refine wl_v rfl rfl rfl (v_idx Try.underlying23 sz39 hG.ad rfl rfl (by omega) (by omega)) ?_
            obtain ⟨B102, cp102, hc102, hl102, hr102⟩ := hG.atSlN (i := i) (by omega)
            refine wl_v rfl rfl rfl (v_load one39 rfl (H.cell (hc102))) ?_
            refine wl_v rfl rfl rfl (v_move rfl) ?_
            refine wl_v rfl rfl rfl (v_idx Try.underlying39 sz3 hr102.ad rfl rfl (by omega) (by omega)) ?_
            refine wl_v rfl rfl rfl (v_load one3 rfl (H.cell (hr102.at1N (i := j) (by omega)))) ?_
            refine wl_v rfl rfl rfl (v_bld ba93 rfl (by repeat constructor)) ?_
            refine wl_slit (v := .agg #[.int .i64 0, .int .i64 0, .int .i64 0, .int .i64 0]) (z := [.int .i64 0, .int .i64 0, .int .i64 0, .int .i64 0]) (cs := [.int .i64 (j : Int), .int .i64 0, .int .i64 0, .int .i64 ((t.go.getD i []).getD j 0)]) (sz := 4) H rfl Try.underlying91 sz93 zv93 (by decide) (by decide) (by kernel_rfl) rfl (by repeat constructor) ?_
            intro b107 w29 hb107 H29 hs29
            refine wl_app1 (f := fEn) (xs := gUpto (t.go.getD i []) j) (y' := ⟨(j : Int), mv0, (t.go.getD i []).getD j 0⟩) H29 (fun v' => (by repeat constructor)) (by repeat constructor) rfl Try.underlying91 info93 rfl (by decide) rfl rfl rfl (by omega) (by decide) ?_
            intro A108 c108 w30 H30 hs30
            refine wl_v rfl rfl rfl (v_assign rfl) ?_
            refine wl_nil ?_
            refine wc_region ?_
            refine wl_v rfl rfl rfl (v_move rfl) ?_
            refine wl_v rfl rfl rfl (v_addi rfl rfl (by omega)) ?_
            refine wl_v rfl rfl rfl (v_assign rfl) ?_
            refine wl_nil ?_
            first
              | exact ⟨(j + 1, A108, c108), by rw [gUpto_take (decide_eq_true c5p)]; exact (sc rfl (sc rfl (sc rfl (sc rfl (sc rfl (sc rfl (sc rfl (sc rfl (sc rfl (sc rfl (sc rfl (sn _)))))))))))), ⟨by dsimp only; omega, by rw [gUpto_take (decide_eq_true c5p)]; exact H30.pm (by repeat constructor)⟩, by dsimp only; omega⟩
              | exact ⟨(j + 1, A17, c17), by rw [gUpto_skip (decide_eq_false c5p)]; exact (sc rfl (sc rfl (sc rfl (sc rfl (sc rfl (sc rfl (sc rfl (sc rfl (sc rfl (sc rfl (sc rfl (sn _)))))))))))), ⟨by dsimp only; omega, by rw [gUpto_skip (decide_eq_false c5p)]; exact H30.pm (by repeat constructor)⟩, by dsimp only; omega⟩
          · have c5p := of_decide_eq_false c5
            refine wc_skip ?_
            refine wc_region ?_
            refine wl_v rfl rfl rfl (v_move rfl) ?_
            refine wl_v rfl rfl rfl (v_addi rfl rfl (by omega)) ?_
            refine wl_v rfl rfl rfl (v_assign rfl) ?_
            refine wl_nil ?_
            first
              | exact ⟨(j + 1, A108, c108), by rw [gUpto_take (decide_eq_true c5p)]; exact (sc rfl (sc rfl (sc rfl (sc rfl (sc rfl (sc rfl (sc rfl (sc rfl (sc rfl (sc rfl (sc rfl (sn _)))))))))))), ⟨by dsimp only; omega, by rw [gUpto_take (decide_eq_true c5p)]; exact H.pm (by repeat constructor)⟩, by dsimp only; omega⟩
              | exact ⟨(j + 1, A17, c17), by rw [gUpto_skip (decide_eq_false c5p)]; exact (sc rfl (sc rfl (sc rfl (sc rfl (sc rfl (sc rfl (sc rfl (sc rfl (sc rfl (sc rfl (sc rfl (sn _)))))))))))), ⟨by dsimp only; omega, by rw [gUpto_skip (decide_eq_false c5p)]; exact H.pm (by repeat constructor)⟩, by dsimp only; omega⟩
        · have c4p := of_decide_eq_false c4
          have hje : j = (t.go.getD i []).length := by omega
          subst hje
          rw [show gUpto (t.go.getD i []) (t.go.getD i []).length = gEnts (t.go.getD i []) from rfl] at H ⊢
          refine wc_exit ?_
          refine wc_region ?_
          refine wl_v rfl rfl rfl (v_move rfl) ?_
          refine wl_v rfl rfl rfl (v_move rfl) ?_
          refine wl_slit (v := .slice none 0 0) (z := [.slice none 0 0]) (cs := [.slice A16 (mEnts (t.mv.getD i [])).length c16]) (sz := 1) H rfl Try.underlying90 sz91 zv91 (by decide) (by decide) (by kernel_rfl) rfl (by repeat constructor) ?_
          intro b111 w31 hb111 H31 hs31
          refine wl_appRR (f := fEn) (e := 91) (e2 := 93) (v := .slice A12 (((t.mv.take i).map mEnts)).length c12) (u := .slice A16 (mEnts (t.mv.getD i [])).length c16) (xs := mEnts (t.mv.getD i [])) (xss := ((t.mv.take i).map mEnts)) H31 (by repeat constructor) (by repeat constructor) (H31.at (by repeat constructor) rfl) rfl Try.underlying90 info91 rfl rfl rfl (by simp only [List.length_map, List.length_take]; omega) (by decide) ?_
          intro A112 c112 w32 H32 hs32
          refine wl_v rfl rfl rfl (v_move rfl) ?_
          refine wl_v rfl rfl rfl (v_move rfl) ?_
          refine wl_slit (v := .slice none 0 0) (z := [.slice none 0 0]) (cs := [.slice A17 (gEnts (t.go.getD i [])).length c17]) (sz := 1) H32 rfl Try.underlying90 sz91 zv91 (by decide) (by decide) (by kernel_rfl) rfl (by repeat constructor) ?_
          intro b115 w33 hb115 H33 hs33
          refine wl_appRR (f := fEn) (e := 91) (e2 := 93) (v := .slice A13 (((t.go.take i).map gEnts)).length c13) (u := .slice A17 (gEnts (t.go.getD i [])).length c17) (xs := gEnts (t.go.getD i [])) (xss := ((t.go.take i).map gEnts)) H33 (by repeat constructor) (by repeat constructor) (H33.at (by repeat constructor) rfl) rfl Try.underlying90 info91 rfl rfl rfl (by simp only [List.length_map, List.length_take]; omega) (by decide) ?_
          intro A116 c116 w34 H34 hs34
          refine wl_v rfl rfl rfl (v_assign rfl) ?_
          refine wl_v rfl rfl rfl (v_assign rfl) ?_
          refine wl_nil ?_
          refine wc_region ?_
          refine wl_v rfl rfl rfl (v_move rfl) ?_
          refine wl_v rfl rfl rfl (v_addi rfl rfl (by omega)) ?_
          refine wl_v rfl rfl rfl (v_assign rfl) ?_
          refine wl_nil ?_
          have e1 := map_take_succ (xs := t.mv) [] usualF (i := i) (by omega)
          have e2 := map_take_succ (xs := t.mv) [] mEnts (i := i) (by omega)
          have e3 := map_take_succ (xs := t.go) [] gEnts (i := i) (by omega)
          exact ⟨(i + 1, (A53, c53), (A112, c112), (A116, c116)), by rw [e2, e3]; exact (sc rfl (sc rfl (sc rfl (sc rfl (sc rfl (sc rfl (sc rfl (sc rfl (sn _))))))))), ⟨by dsimp only; omega, by rw [e1, e2, e3]; exact H34.pm (by repeat constructor)⟩, by dsimp only; omega⟩
    · have c1p := of_decide_eq_false c1
      rw [take_all c1p, take_all (xs := t.go) (by omega)] at H ⊢
      have hlc := laidF_len (rows := (atss (t.mv.map mEnts))) (ord := ordF (atss (t.mv.map mEnts))) (least := k) (fun x hx => ordF_mem hx) (ordF_len _) (fun x hx => (hpm x hx).1)
      have hgc := laidF_len (rows := (atss (t.go.map gEnts))) (ord := ordF (atss (t.go.map gEnts))) (least := r) (fun x hx => ordF_mem hx) (ordF_len _) (fun x hx => (hgm x hx).1)
      have hlb := laidF_len1 (atss (t.mv.map mEnts)) (ordF (atss (t.mv.map mEnts))) k
      have hgb := laidF_len1 (atss (t.go.map gEnts)) (ordF (atss (t.go.map gEnts))) r
      rw [List.length_map, List.length_map] at hlc hgc hlb hgb
      have htm := cellsUpto_len (z := mv0) (check := (laidF (atss (t.mv.map mEnts)) (ordF (atss (t.mv.map mEnts))) k).2) (base := (laidF (atss (t.mv.map mEnts)) (ordF (atss (t.mv.map mEnts))) k).1) (rows := t.mv) (Nat.le_refl _)
      have htg := cellsUpto_len (z := (0 : Int)) (check := (laidF (atss (t.go.map gEnts)) (ordF (atss (t.go.map gEnts))) r).2) (base := (laidF (atss (t.go.map gEnts)) (ordF (atss (t.go.map gEnts))) r).1) (rows := t.go) (Nat.le_refl _)
      refine wc_exit ?_
      refine wc_seq ?_
      refine wc_region ?_
      refine wl_v rfl rfl rfl (v_move rfl) ?_
      refine wl_v rfl rfl rfl (v_move rfl) ?_
      refine wl_call en42 rfl rfl (lay_calls (H.rrR (f := fEn) (e := 91) (e2 := 93) (A := A12) (xss := t.mv.map mEnts) (by repeat constructor)) (fun r hr => (hpm r hr).1) (fun r hr => Nat.le_trans (atss_ok hpm r hr) (by omega)) (by rw [List.length_map]; exact hb1) (by rw [List.length_map]; omega) (by omega) (by omega)) ?_
      rintro _ w35 ⟨Ab, cb2, Ac, cc, rfl, Hc⟩
      have H36 := H.call Hc
      refine wl_v rfl rfl rfl (v_move rfl) ?_
      refine wl_v rfl rfl rfl (v_extract rfl rfl) ?_
      refine wl_v rfl rfl rfl (v_extract rfl rfl) ?_
      refine wl_v rfl rfl rfl (v_fb (o2 := 3) fa41_3 rfl rfl) ?_
      refine wl_store (vs := [_]) H36 (by repeat constructor) sz39 rfl rfl rfl rfl rfl (by repeat constructor) ?_
      intro w37 H38 hw37
      refine wl_v rfl rfl rfl (v_fb (o2 := 4) fa41_4 rfl rfl) ?_
      refine wl_store (vs := [_]) H38 (by repeat constructor) sz39 rfl rfl rfl rfl rfl (by repeat constructor) ?_
      intro w39 H40 hw39
      refine wl_nil ?_
      refine wc_seq ?_
      refine wc_region ?_
      refine wl_v rfl rfl rfl (v_move rfl) ?_
      refine wl_v rfl rfl rfl (v_move rfl) ?_
      refine wl_call en42 rfl rfl (lay_calls (H40.rrR (f := fEn) (e := 91) (e2 := 93) (A := A13) (xss := t.go.map gEnts) (by repeat constructor)) (fun r hr => (hgm r hr).1) (fun r hr => Nat.le_trans (atss_ok hgm r hr) (by omega)) (by rw [List.length_map]; exact hb2) (by rw [List.length_map]; omega) (by omega) (by omega)) ?_
      rintro _ w41 ⟨Agb, cgb, Agc, cgc, rfl, Hc⟩
      have H42 := H40.call Hc
      refine wl_v rfl rfl rfl (v_move rfl) ?_
      refine wl_v rfl rfl rfl (v_extract rfl rfl) ?_
      refine wl_v rfl rfl rfl (v_extract rfl rfl) ?_
      refine wl_v rfl rfl rfl (v_fb (o2 := 6) fa41_6 rfl rfl) ?_
      refine wl_store (vs := [_]) H42 (by repeat constructor) sz39 rfl rfl rfl rfl rfl (by repeat constructor) ?_
      intro w43 H44 hw43
      refine wl_v rfl rfl rfl (v_fb (o2 := 7) fa41_7 rfl rfl) ?_
      refine wl_store (vs := [_]) H44 (by repeat constructor) sz39 rfl rfl rfl rfl rfl (by repeat constructor) ?_
      intro w45 H46 hw45
      refine wl_nil ?_
      refine wc_seq ?_
      refine wc_region ?_
      refine wl_v rfl rfl rfl (v_fb (o2 := 4) fa41_4 rfl rfl) ?_
      refine wl_v rfl rfl rfl (v_load one39 rfl (H46.at (by repeat constructor) rfl)) ?_
      refine wl_v rfl rfl rfl (v_len Try.underlying39 rfl) ?_
      refine wl_make (f := fMv) (z' := mv0) H46 rfl Try.underlying38 info48 rfl (by decide) rfl rfl (by omega) (by omega) (by decide) ?_
      intro A136 w47 H47 hs47
      rw [Int.toNat_natCast] at H47 ⊢
      refine wl_v rfl rfl rfl (v_fb (o2 := 5) fa41_5 rfl rfl) ?_
      refine wl_store (vs := [_]) H47 (by repeat constructor) sz38 rfl rfl rfl rfl rfl (by repeat constructor) ?_
      intro w48 H49 hw48
      refine wl_nil ?_
      refine wc_seq ?_
      refine wc_region ?_
      refine wl_v rfl rfl rfl (v_fb (o2 := 7) fa41_7 rfl rfl) ?_
      refine wl_v rfl rfl rfl (v_load one39 rfl (H49.at (by repeat constructor) rfl)) ?_
      refine wl_v rfl rfl rfl (v_len Try.underlying39 rfl) ?_
      refine wl_make (f := fInt .i64) (z' := 0) H49 rfl Try.underlying39 info3 rfl (by decide) rfl rfl (by omega) (by omega) (by decide) ?_
      intro A141 w50 H50 hs50
      rw [Int.toNat_natCast] at H50 ⊢
      refine wl_v rfl rfl rfl (v_fb (o2 := 8) fa41_8 rfl rfl) ?_
      refine wl_store (vs := [_]) H50 (by repeat constructor) sz39 rfl rfl rfl rfl rfl (by repeat constructor) ?_
      intro w51 H52 hw51
      refine wl_nil ?_
      refine wc_seq ?_
      refine wc_seq ?_
      refine wc_region ?_
      refine wl_v rfl rfl rfl (v_assign rfl) ?_
      refine wl_nil ?_
      refine wc_block ?_
      refine wc_loop (σ := Nat × List Mv × List Int) (fun s => [(4, .pointer (some ⟨b4, 0, none⟩)), (8, .pointer (some ⟨b8, 0, none⟩)), (11, .pointer (some ⟨b11, 0, none⟩)), (12, .slice A12 (t.mv.map mEnts).length c12), (13, .slice A13 (t.go.map gEnts).length c13), (21, .int .i64 s.1)]) (fun s W => (s.1 ≤ t.mv.length ∧ Sc mv0 (cellsUpto mv0 (laidF (atss (t.mv.map mEnts)) (ordF (atss (t.mv.map mEnts))) k).2 (laidF (atss (t.mv.map mEnts)) (ordF (atss (t.mv.map mEnts))) k).1 t.mv (laidF (atss (t.mv.map mEnts)) (ordF (atss (t.mv.map mEnts))) k).2.length) (laidF (atss (t.mv.map mEnts)) (ordF (atss (t.mv.map mEnts))) k).1 (atss (t.mv.map mEnts)) (s.1) (0) s.2.1 ∧ Sc 0 (cellsUpto 0 (laidF (atss (t.go.map gEnts)) (ordF (atss (t.go.map gEnts))) r).2 (laidF (atss (t.go.map gEnts)) (ordF (atss (t.go.map gEnts))) r).1 t.go (laidF (atss (t.go.map gEnts)) (ordF (atss (t.go.map gEnts))) r).2.length) (laidF (atss (t.go.map gEnts)) (ordF (atss (t.go.map gEnts))) r).1 (atss (t.go.map gEnts)) (s.1) (0) s.2.2) ∧ Holds w [Row fMv 48 (.slice A136 (laidF (atss (t.mv.map mEnts)) (ordF (atss (t.mv.map mEnts))) k).2.length (laidF (atss (t.mv.map mEnts)) (ordF (atss (t.mv.map mEnts))) k).2.length) s.2.1, Row (fInt .i64) 3 (.slice A141 (laidF (atss (t.go.map gEnts)) (ordF (atss (t.go.map gEnts))) r).2.length (laidF (atss (t.go.map gEnts)) (ordF (atss (t.go.map gEnts))) r).2.length) s.2.2, Blk b11 41 [.int .i64 k, .int .i64 r, .slice Ad ((t.mv.map usualF)).length cd, .slice Ab ((laidF (atss (t.mv.map mEnts)) (ordF (atss (t.mv.map mEnts))) k).1).length cb2, .slice Ac ((laidF (atss (t.mv.map mEnts)) (ordF (atss (t.mv.map mEnts))) k).2).length cc, .slice A136 (laidF (atss (t.mv.map mEnts)) (ordF (atss (t.mv.map mEnts))) k).2.length (laidF (atss (t.mv.map mEnts)) (ordF (atss (t.mv.map mEnts))) k).2.length, .slice Agb ((laidF (atss (t.go.map gEnts)) (ordF (atss (t.go.map gEnts))) r).1).length cgb, .slice Agc ((laidF (atss (t.go.map gEnts)) (ordF (atss (t.go.map gEnts))) r).2).length cgc, .slice A141 (laidF (atss (t.go.map gEnts)) (ordF (atss (t.go.map gEnts))) r).2.length (laidF (atss (t.go.map gEnts)) (ordF (atss (t.go.map gEnts))) r).2.length], Row (fInt .i64) 3 (.slice Ac ((laidF (atss (t.mv.map mEnts)) (ordF (atss (t.mv.map mEnts))) k).2).length cc) ((laidF (atss (t.mv.map mEnts)) (ordF (atss (t.mv.map mEnts))) k).2), Row (fInt .i64) 3 (.slice Ab ((laidF (atss (t.mv.map mEnts)) (ordF (atss (t.mv.map mEnts))) k).1).length cb2) ((laidF (atss (t.mv.map mEnts)) (ordF (atss (t.mv.map mEnts))) k).1), Row (fInt .i64) 3 (.slice Agc ((laidF (atss (t.go.map gEnts)) (ordF (atss (t.go.map gEnts))) r).2).length cgc) ((laidF (atss (t.go.map gEnts)) (ordF (atss (t.go.map gEnts))) r).2), Row (fInt .i64) 3 (.slice Agb ((laidF (atss (t.go.map gEnts)) (ordF (atss (t.go.map gEnts))) r).1).length cgb) ((laidF (atss (t.go.map gEnts)) (ordF (atss (t.go.map gEnts))) r).1), Row fMv 48 (.slice Ad ((t.mv.map usualF)).length cd) ((t.mv.map usualF)), RR fEn 91 93 (.slice A12 (t.mv.map mEnts).length c12) (t.mv.map mEnts), RR fEn 91 93 (.slice A13 (t.go.map gEnts).length c13) (t.go.map gEnts), Blk b8 41 [.int .i64 0, .int .i64 0, .slice none 0 0, .slice none 0 0, .slice none 0 0, .slice none 0 0, .slice none 0 0, .slice none 0 0, .slice none 0 0], Blk b4 25 [.slice A t.mv.length ca, .slice B t.go.length cb]] W) (fun s => t.mv.length - s.1) (0, List.replicate (laidF (atss (t.mv.map mEnts)) (ordF (atss (t.mv.map mEnts))) k).2.length mv0, List.replicate (laidF (atss (t.go.map gEnts)) (ordF (atss (t.go.map gEnts))) r).2.length 0) (sc rfl (sc rfl (sc rfl (sc rfl (sc rfl (sc rfl (sn _))))))) ⟨⟨Nat.zero_le _, Sc.start htm.symm, Sc.start htg.symm⟩, H52.pm (by repeat constructor)⟩ ?_
      rintro ⟨s, cm, cg⟩ W3 ⟨⟨hs, hsc1, hsc2⟩, H⟩
      dsimp only at hs hsc1 hsc2 H ⊢
      refine wc_seq ?_
      refine wc_seq ?_
      refine wc_region ?_
      refine wl_v rfl rfl rfl (v_move rfl) ?_
      refine wl_v rfl rfl rfl (v_move rfl) ?_
      refine wl_v rfl rfl rfl (v_len Try.underlying90 rfl) ?_
      refine wl_v rfl rfl rfl (v_lss rfl rfl) ?_
      refine wl_nil ?_
      refine wc_cond rfl (fun c6 => ?_) (fun c6 => ?_)
      · have c6p := of_decide_eq_true c6
        have hrw1 := atss_ok hpm _ (getD_mem (z := []) (show s < (t.mv.map mEnts).length by omega))
        have hrw2 := atss_ok hgm _ (getD_mem (z := []) (show s < (t.go.map gEnts).length by omega))
        refine wc_skip ?_
        refine wc_seq ?_
        refine wc_block ?_
        refine wc_seq ?_
        refine wc_seq ?_
        refine wc_region ?_
        refine wl_v rfl rfl rfl (v_assign rfl) ?_
        refine wl_nil ?_
        refine wc_block ?_
        refine wc_loop (σ := Nat × List Mv) (fun s' => [(4, .pointer (some ⟨b4, 0, none⟩)), (8, .pointer (some ⟨b8, 0, none⟩)), (11, .pointer (some ⟨b11, 0, none⟩)), (12, .slice A12 (t.mv.map mEnts).length c12), (13, .slice A13 (t.go.map gEnts).length c13), (21, .int .i64 s), (22, .int .i64 s'.1)]) (fun s' W => (s'.1 ≤ ((t.mv.map mEnts).getD s []).length ∧ Sc mv0 (cellsUpto mv0 (laidF (atss (t.mv.map mEnts)) (ordF (atss (t.mv.map mEnts))) k).2 (laidF (atss (t.mv.map mEnts)) (ordF (atss (t.mv.map mEnts))) k).1 t.mv (laidF (atss (t.mv.map mEnts)) (ordF (atss (t.mv.map mEnts))) k).2.length) (laidF (atss (t.mv.map mEnts)) (ordF (atss (t.mv.map mEnts))) k).1 (atss (t.mv.map mEnts)) (s) (s'.1) s'.2) ∧ Holds w [Row fMv 48 (.slice A136 (laidF (atss (t.mv.map mEnts)) (ordF (atss (t.mv.map mEnts))) k).2.length (laidF (atss (t.mv.map mEnts)) (ordF (atss (t.mv.map mEnts))) k).2.length) s'.2, Row (fInt .i64) 3 (.slice A141 (laidF (atss (t.go.map gEnts)) (ordF (atss (t.go.map gEnts))) r).2.length (laidF (atss (t.go.map gEnts)) (ordF (atss (t.go.map gEnts))) r).2.length) cg, Blk b11 41 [.int .i64 k, .int .i64 r, .slice Ad ((t.mv.map usualF)).length cd, .slice Ab ((laidF (atss (t.mv.map mEnts)) (ordF (atss (t.mv.map mEnts))) k).1).length cb2, .slice Ac ((laidF (atss (t.mv.map mEnts)) (ordF (atss (t.mv.map mEnts))) k).2).length cc, .slice A136 (laidF (atss (t.mv.map mEnts)) (ordF (atss (t.mv.map mEnts))) k).2.length (laidF (atss (t.mv.map mEnts)) (ordF (atss (t.mv.map mEnts))) k).2.length, .slice Agb ((laidF (atss (t.go.map gEnts)) (ordF (atss (t.go.map gEnts))) r).1).length cgb, .slice Agc ((laidF (atss (t.go.map gEnts)) (ordF (atss (t.go.map gEnts))) r).2).length cgc, .slice A141 (laidF (atss (t.go.map gEnts)) (ordF (atss (t.go.map gEnts))) r).2.length (laidF (atss (t.go.map gEnts)) (ordF (atss (t.go.map gEnts))) r).2.length], Row (fInt .i64) 3 (.slice Ac ((laidF (atss (t.mv.map mEnts)) (ordF (atss (t.mv.map mEnts))) k).2).length cc) ((laidF (atss (t.mv.map mEnts)) (ordF (atss (t.mv.map mEnts))) k).2), Row (fInt .i64) 3 (.slice Ab ((laidF (atss (t.mv.map mEnts)) (ordF (atss (t.mv.map mEnts))) k).1).length cb2) ((laidF (atss (t.mv.map mEnts)) (ordF (atss (t.mv.map mEnts))) k).1), Row (fInt .i64) 3 (.slice Agc ((laidF (atss (t.go.map gEnts)) (ordF (atss (t.go.map gEnts))) r).2).length cgc) ((laidF (atss (t.go.map gEnts)) (ordF (atss (t.go.map gEnts))) r).2), Row (fInt .i64) 3 (.slice Agb ((laidF (atss (t.go.map gEnts)) (ordF (atss (t.go.map gEnts))) r).1).length cgb) ((laidF (atss (t.go.map gEnts)) (ordF (atss (t.go.map gEnts))) r).1), Row fMv 48 (.slice Ad ((t.mv.map usualF)).length cd) ((t.mv.map usualF)), RR fEn 91 93 (.slice A12 (t.mv.map mEnts).length c12) (t.mv.map mEnts), RR fEn 91 93 (.slice A13 (t.go.map gEnts).length c13) (t.go.map gEnts), Blk b8 41 [.int .i64 0, .int .i64 0, .slice none 0 0, .slice none 0 0, .slice none 0 0, .slice none 0 0, .slice none 0 0, .slice none 0 0, .slice none 0 0], Blk b4 25 [.slice A t.mv.length ca, .slice B t.go.length cb]] W) (fun s' => ((t.mv.map mEnts).getD s []).length - s'.1) (0, cm) (sc rfl (sc rfl (sc rfl (sc rfl (sc rfl (sc rfl (sc rfl (sn _)))))))) ⟨⟨Nat.zero_le _, hsc1⟩, H.pm (by repeat constructor)⟩ ?_
        rintro ⟨j, cm'⟩ W4 ⟨⟨hj, hsm⟩, H⟩
        dsimp only at hj hsm H ⊢
        refine wc_seq ?_
        refine wc_seq ?_
        refine wc_region ?_
        refine wl_v rfl rfl rfl (v_move rfl) ?_
        refine wl_v rfl rfl rfl (v_move rfl) ?_
        refine wl_v rfl rfl rfl (v_move rfl) ?_
        refine wl_v rfl rfl rfl (v_idx Try.underlying90 sz91 (H.rrR (f := fEn) (e := 91) (e2 := 93) (A := A12) (xss := t.mv.map mEnts) (by repeat constructor)).ad rfl rfl (by omega) (by omega)) ?_
        obtain ⟨B153, cp153, hc153, hl153, hr153⟩ := (H.rrR (f := fEn) (e := 91) (e2 := 93) (A := A12) (xss := t.mv.map mEnts) (by repeat constructor)).atSlN (i := s) (by omega)
        refine wl_v rfl rfl rfl (v_load one91 rfl (hc153)) ?_
        refine wl_v rfl rfl rfl (v_len Try.underlying91 rfl) ?_
        refine wl_v rfl rfl rfl (v_lss rfl rfl) ?_
        refine wl_nil ?_
        refine wc_cond rfl (fun c7 => ?_) (fun c7 => ?_)
        · have c7p := of_decide_eq_true c7
          have hjl : j < ((t.mv.map mEnts).getD s []).length := by omega
          obtain ⟨z0, z1, z2, z3⟩ := put_at (least := k) hXM (show s < (t.mv.map mEnts).length by omega) hjl
          have hcl := hsm.len
          have hput := hsm.put (v := (((t.mv.map mEnts).getD s []).getD j enZ).mv) (by rw [atss_at]; omega) (by rw [atss_at, sc_val hXM (by rw [List.length_map]; omega) z0]; exact ent_mv (by omega) hjl)
          rw [atss_at] at hput
          have hcell := H.rrd (f := fMv) (e := 48) (A := A136) (xs := cm') (by repeat constructor)
          have hcad : 0 < (laidF (atss (t.mv.map mEnts)) (ordF (atss (t.mv.map mEnts))) k).2.length → A136 = some (adr A136) := fun h => hcell.ad (by omega)
          have hrw := atss_ok hpm _ (getD_mem (z := []) (show s < (t.mv.map mEnts).length by omega))
          refine wc_skip ?_
          refine wc_seq ?_
          refine wc_block ?_
          refine wc_tail 25 mixed (by kernel_rfl) ?_
          have Hd := H.drew
          refine ws_v rfl rfl rfl (v_fb (o2 := 5) fa41_5 rfl rfl) ?_
          refine ws_v rfl rfl rfl (v_load one38 rfl (Hd.at (by repeat constructor) rfl)) ?_
          refine ws_v rfl rfl rfl (v_fb (o2 := 3) fa41_3 rfl rfl) ?_
          refine ws_v rfl rfl rfl (v_load one39 rfl (Hd.at (by repeat constructor) rfl)) ?_
          refine ws_v rfl rfl rfl (v_move rfl) ?_
          refine ws_v rfl rfl rfl (v_idx Try.underlying39 sz3 (Hd.rrd (f := fInt .i64) (e := 3) (A := Ab) (xs := (laidF (atss (t.mv.map mEnts)) (ordF (atss (t.mv.map mEnts))) k).1) (by repeat constructor)).ad rfl rfl (by omega) (by omega)) ?_
          refine ws_v rfl rfl rfl (v_load one3 rfl ((Hd.rrd (f := fInt .i64) (e := 3) (A := Ab) (xs := (laidF (atss (t.mv.map mEnts)) (ordF (atss (t.mv.map mEnts))) k).1) (by repeat constructor)).at1N (i := s) (by omega))) ?_
          refine ws_v rfl rfl rfl (v_move rfl) ?_
          refine ws_v rfl rfl rfl (v_move rfl) ?_
          refine ws_v rfl rfl rfl (v_idx Try.underlying90 sz91 (Hd.rrR (f := fEn) (e := 91) (e2 := 93) (A := A12) (xss := t.mv.map mEnts) (by repeat constructor)).ad rfl rfl (by omega) (by omega)) ?_
          obtain ⟨B168, cp168, hc168, hl168, hr168⟩ := (Hd.rrR (f := fEn) (e := 91) (e2 := 93) (A := A12) (xss := t.mv.map mEnts) (by repeat constructor)).atSlN (i := s) (by omega)
          refine ws_v rfl rfl rfl (v_load one91 rfl (hc168)) ?_
          refine ws_v rfl rfl rfl (v_move rfl) ?_
          refine ws_v rfl rfl rfl (v_idx Try.underlying91 sz93 hr168.ad rfl rfl (by omega) (by omega)) ?_
          refine ws_v rfl rfl rfl (v_fp fa93_0 rfl) ?_
          refine ws_v rfl rfl rfl (v_load one3 rfl (hr168.atN (i := j) (k := 0) enZ (by omega) rfl)) ?_
          refine ws_v rfl rfl rfl (v_addi rfl rfl (by omega)) ?_
          refine ws_v rfl rfl rfl (v_move rfl) ?_
          refine ws_v rfl rfl rfl (v_move rfl) ?_
          refine ws_v rfl rfl rfl (v_idx Try.underlying90 sz91 (Hd.rrR (f := fEn) (e := 91) (e2 := 93) (A := A12) (xss := t.mv.map mEnts) (by repeat constructor)).ad rfl rfl (by omega) (by omega)) ?_
          obtain ⟨B177, cp177, hc177, hl177, hr177⟩ := (Hd.rrR (f := fEn) (e := 91) (e2 := 93) (A := A12) (xss := t.mv.map mEnts) (by repeat constructor)).atSlN (i := s) (by omega)
          refine ws_v rfl rfl rfl (v_load one91 rfl (hc177)) ?_
          refine ws_v rfl rfl rfl (v_move rfl) ?_
          refine ws_v rfl rfl rfl (v_idx Try.underlying91 sz93 hr177.ad rfl rfl (by omega) (by omega)) ?_
          refine ws_v rfl rfl rfl (v_fp fa93_1 rfl) ?_
          refine ws_v rfl rfl rfl (v_loadN (cs := [.int .i64 (((t.mv.map mEnts).getD s []).getD j enZ).mv.d, .int .i64 (((t.mv.map mEnts).getD s []).getD j enZ).mv.n]) agg48 rfl rfl (hr177.atNoff (i := j) (off := 1) enZ (by omega) rfl)) ?_
          refine ws_v rfl rfl rfl (v_idx Try.underlying38 sz48 hcad rfl rfl (by omega) (by omega)) ?_
          refine ws_nil ?_
          refine wl_storeR (f := fMv) (xs := cm') (i := (laidF (atss (t.mv.map mEnts)) (ordF (atss (t.mv.map mEnts))) k).1.getD s 0 + (((t.mv.map mEnts).getD s []).getD j enZ).at_) (x' := (((t.mv.map mEnts).getD s []).getD j enZ).mv) Hd (by repeat constructor) sz48 rfl rfl rfl (by omega) (by omega) ?_
          intro w54 H54
          refine wl_nil ?_
          refine wc_region ?_
          refine wl_v rfl rfl rfl (v_move rfl) ?_
          refine wl_v rfl rfl rfl (v_addi rfl rfl (by omega)) ?_
          refine wl_v rfl rfl rfl (v_assign rfl) ?_
          refine wl_nil ?_
          exact ⟨(j + 1, cm'.set ((laidF (atss (t.mv.map mEnts)) (ordF (atss (t.mv.map mEnts))) k).1.getD s 0 + (((t.mv.map mEnts).getD s []).getD j enZ).at_).toNat (((t.mv.map mEnts).getD s []).getD j enZ).mv), (sc rfl (sc rfl (sc rfl (sc rfl (sc rfl (sc rfl (sc rfl (sn _)))))))), ⟨⟨by dsimp only; omega, hput⟩, H54.pm (by repeat constructor)⟩, by dsimp only; omega⟩
        · have c7p := of_decide_eq_false c7
          refine wc_exit ?_
          refine wc_seq ?_
          refine wc_region ?_
          refine wl_v rfl rfl rfl (v_assign rfl) ?_
          refine wl_nil ?_
          refine wc_block ?_
          refine wc_loop (σ := Nat × List Int) (fun s' => [(4, .pointer (some ⟨b4, 0, none⟩)), (8, .pointer (some ⟨b8, 0, none⟩)), (11, .pointer (some ⟨b11, 0, none⟩)), (12, .slice A12 (t.mv.map mEnts).length c12), (13, .slice A13 (t.go.map gEnts).length c13), (21, .int .i64 s), (23, .int .i64 s'.1)]) (fun s' W => (s'.1 ≤ ((t.go.map gEnts).getD s []).length ∧ Sc 0 (cellsUpto 0 (laidF (atss (t.go.map gEnts)) (ordF (atss (t.go.map gEnts))) r).2 (laidF (atss (t.go.map gEnts)) (ordF (atss (t.go.map gEnts))) r).1 t.go (laidF (atss (t.go.map gEnts)) (ordF (atss (t.go.map gEnts))) r).2.length) (laidF (atss (t.go.map gEnts)) (ordF (atss (t.go.map gEnts))) r).1 (atss (t.go.map gEnts)) (s) (s'.1) s'.2) ∧ Holds w [Row fMv 48 (.slice A136 (laidF (atss (t.mv.map mEnts)) (ordF (atss (t.mv.map mEnts))) k).2.length (laidF (atss (t.mv.map mEnts)) (ordF (atss (t.mv.map mEnts))) k).2.length) cm', Row (fInt .i64) 3 (.slice A141 (laidF (atss (t.go.map gEnts)) (ordF (atss (t.go.map gEnts))) r).2.length (laidF (atss (t.go.map gEnts)) (ordF (atss (t.go.map gEnts))) r).2.length) s'.2, Blk b11 41 [.int .i64 k, .int .i64 r, .slice Ad ((t.mv.map usualF)).length cd, .slice Ab ((laidF (atss (t.mv.map mEnts)) (ordF (atss (t.mv.map mEnts))) k).1).length cb2, .slice Ac ((laidF (atss (t.mv.map mEnts)) (ordF (atss (t.mv.map mEnts))) k).2).length cc, .slice A136 (laidF (atss (t.mv.map mEnts)) (ordF (atss (t.mv.map mEnts))) k).2.length (laidF (atss (t.mv.map mEnts)) (ordF (atss (t.mv.map mEnts))) k).2.length, .slice Agb ((laidF (atss (t.go.map gEnts)) (ordF (atss (t.go.map gEnts))) r).1).length cgb, .slice Agc ((laidF (atss (t.go.map gEnts)) (ordF (atss (t.go.map gEnts))) r).2).length cgc, .slice A141 (laidF (atss (t.go.map gEnts)) (ordF (atss (t.go.map gEnts))) r).2.length (laidF (atss (t.go.map gEnts)) (ordF (atss (t.go.map gEnts))) r).2.length], Row (fInt .i64) 3 (.slice Ac ((laidF (atss (t.mv.map mEnts)) (ordF (atss (t.mv.map mEnts))) k).2).length cc) ((laidF (atss (t.mv.map mEnts)) (ordF (atss (t.mv.map mEnts))) k).2), Row (fInt .i64) 3 (.slice Ab ((laidF (atss (t.mv.map mEnts)) (ordF (atss (t.mv.map mEnts))) k).1).length cb2) ((laidF (atss (t.mv.map mEnts)) (ordF (atss (t.mv.map mEnts))) k).1), Row (fInt .i64) 3 (.slice Agc ((laidF (atss (t.go.map gEnts)) (ordF (atss (t.go.map gEnts))) r).2).length cgc) ((laidF (atss (t.go.map gEnts)) (ordF (atss (t.go.map gEnts))) r).2), Row (fInt .i64) 3 (.slice Agb ((laidF (atss (t.go.map gEnts)) (ordF (atss (t.go.map gEnts))) r).1).length cgb) ((laidF (atss (t.go.map gEnts)) (ordF (atss (t.go.map gEnts))) r).1), Row fMv 48 (.slice Ad ((t.mv.map usualF)).length cd) ((t.mv.map usualF)), RR fEn 91 93 (.slice A12 (t.mv.map mEnts).length c12) (t.mv.map mEnts), RR fEn 91 93 (.slice A13 (t.go.map gEnts).length c13) (t.go.map gEnts), Blk b8 41 [.int .i64 0, .int .i64 0, .slice none 0 0, .slice none 0 0, .slice none 0 0, .slice none 0 0, .slice none 0 0, .slice none 0 0, .slice none 0 0], Blk b4 25 [.slice A t.mv.length ca, .slice B t.go.length cb]] W) (fun s' => ((t.go.map gEnts).getD s []).length - s'.1) (0, cg) (sc rfl (sc rfl (sc rfl (sc rfl (sc rfl (sc rfl (sc rfl (sn _)))))))) ⟨⟨Nat.zero_le _, hsc2⟩, H.pm (by repeat constructor)⟩ ?_
          rintro ⟨j, cg'⟩ W5 ⟨⟨hj2, hsg⟩, H⟩
          dsimp only at hj2 hsg H ⊢
          refine wc_seq ?_
          refine wc_seq ?_
          refine wc_region ?_
          refine wl_v rfl rfl rfl (v_move rfl) ?_
          refine wl_v rfl rfl rfl (v_move rfl) ?_
          refine wl_v rfl rfl rfl (v_move rfl) ?_
          refine wl_v rfl rfl rfl (v_idx Try.underlying90 sz91 (H.rrR (f := fEn) (e := 91) (e2 := 93) (A := A13) (xss := t.go.map gEnts) (by repeat constructor)).ad rfl rfl (by omega) (by omega)) ?_
          obtain ⟨B187, cp187, hc187, hl187, hr187⟩ := (H.rrR (f := fEn) (e := 91) (e2 := 93) (A := A13) (xss := t.go.map gEnts) (by repeat constructor)).atSlN (i := s) (by omega)
          refine wl_v rfl rfl rfl (v_load one91 rfl (hc187)) ?_
          refine wl_v rfl rfl rfl (v_len Try.underlying91 rfl) ?_
          refine wl_v rfl rfl rfl (v_lss rfl rfl) ?_
          refine wl_nil ?_
          refine wc_cond rfl (fun c8 => ?_) (fun c8 => ?_)
          · have c8p := of_decide_eq_true c8
            have hjl : j < ((t.go.map gEnts).getD s []).length := by omega
            obtain ⟨z0, z1, z2, z3⟩ := put_at (least := r) hXG (show s < (t.go.map gEnts).length by omega) hjl
            have hcl := hsg.len
            have hput := hsg.put (v := (((t.go.map gEnts).getD s []).getD j enZ).to) (by rw [atss_at]; omega) (by rw [atss_at, sc_val hXG (by rw [List.length_map]; omega) z0]; exact ent_to (by omega) hjl)
            rw [atss_at] at hput
            have hcell := H.rrd (f := fInt .i64) (e := 3) (A := A141) (xs := cg') (by repeat constructor)
            have hgad : 0 < (laidF (atss (t.go.map gEnts)) (ordF (atss (t.go.map gEnts))) r).2.length → A141 = some (adr A141) := fun h => hcell.ad (by omega)
            have hrw := atss_ok hgm _ (getD_mem (z := []) (show s < (t.go.map gEnts).length by omega))
            refine wc_skip ?_
            refine wc_seq ?_
            refine wc_block ?_
            refine wc_tail 25 mixed (by kernel_rfl) ?_
            have Hd := H.drew
            refine ws_v rfl rfl rfl (v_fb (o2 := 8) fa41_8 rfl rfl) ?_
            refine ws_v rfl rfl rfl (v_load one39 rfl (Hd.at (by repeat constructor) rfl)) ?_
            refine ws_v rfl rfl rfl (v_fb (o2 := 6) fa41_6 rfl rfl) ?_
            refine ws_v rfl rfl rfl (v_load one39 rfl (Hd.at (by repeat constructor) rfl)) ?_
            refine ws_v rfl rfl rfl (v_move rfl) ?_
            refine ws_v rfl rfl rfl (v_idx Try.underlying39 sz3 (Hd.rrd (f := fInt .i64) (e := 3) (A := Agb) (xs := (laidF (atss (t.go.map gEnts)) (ordF (atss (t.go.map gEnts))) r).1) (by repeat constructor)).ad rfl rfl (by omega) (by omega)) ?_
            refine ws_v rfl rfl rfl (v_load one3 rfl ((Hd.rrd (f := fInt .i64) (e := 3) (A := Agb) (xs := (laidF (atss (t.go.map gEnts)) (ordF (atss (t.go.map gEnts))) r).1) (by repeat constructor)).at1N (i := s) (by omega))) ?_
            refine ws_v rfl rfl rfl (v_move rfl) ?_
            refine ws_v rfl rfl rfl (v_move rfl) ?_
            refine ws_v rfl rfl rfl (v_idx Try.underlying90 sz91 (Hd.rrR (f := fEn) (e := 91) (e2 := 93) (A := A13) (xss := t.go.map gEnts) (by repeat constructor)).ad rfl rfl (by omega) (by omega)) ?_
            obtain ⟨B202, cp202, hc202, hl202, hr202⟩ := (Hd.rrR (f := fEn) (e := 91) (e2 := 93) (A := A13) (xss := t.go.map gEnts) (by repeat constructor)).atSlN (i := s) (by omega)
            refine ws_v rfl rfl rfl (v_load one91 rfl (hc202)) ?_
            refine ws_v rfl rfl rfl (v_move rfl) ?_
            refine ws_v rfl rfl rfl (v_idx Try.underlying91 sz93 hr202.ad rfl rfl (by omega) (by omega)) ?_
            refine ws_v rfl rfl rfl (v_fp fa93_0 rfl) ?_
            refine ws_v rfl rfl rfl (v_load one3 rfl (hr202.atN (i := j) (k := 0) enZ (by omega) rfl)) ?_
            refine ws_v rfl rfl rfl (v_addi rfl rfl (by omega)) ?_
            refine ws_v rfl rfl rfl (v_move rfl) ?_
            refine ws_v rfl rfl rfl (v_move rfl) ?_
            refine ws_v rfl rfl rfl (v_idx Try.underlying90 sz91 (Hd.rrR (f := fEn) (e := 91) (e2 := 93) (A := A13) (xss := t.go.map gEnts) (by repeat constructor)).ad rfl rfl (by omega) (by omega)) ?_
            obtain ⟨B211, cp211, hc211, hl211, hr211⟩ := (Hd.rrR (f := fEn) (e := 91) (e2 := 93) (A := A13) (xss := t.go.map gEnts) (by repeat constructor)).atSlN (i := s) (by omega)
            refine ws_v rfl rfl rfl (v_load one91 rfl (hc211)) ?_
            refine ws_v rfl rfl rfl (v_move rfl) ?_
            refine ws_v rfl rfl rfl (v_idx Try.underlying91 sz93 hr211.ad rfl rfl (by omega) (by omega)) ?_
            refine ws_v rfl rfl rfl (v_fp fa93_2 rfl) ?_
            refine ws_v rfl rfl rfl (v_load one3 rfl (hr211.atN (i := j) (k := 3) enZ (by omega) rfl)) ?_
            refine ws_v rfl rfl rfl (v_idx Try.underlying39 sz3 hgad rfl rfl (by omega) (by omega)) ?_
            refine ws_nil ?_
            refine wl_storeR (f := fInt .i64) (xs := cg') (i := (laidF (atss (t.go.map gEnts)) (ordF (atss (t.go.map gEnts))) r).1.getD s 0 + (((t.go.map gEnts).getD s []).getD j enZ).at_) (x' := (((t.go.map gEnts).getD s []).getD j enZ).to) Hd (by repeat constructor) sz3 rfl rfl rfl (by omega) (by omega) ?_
            intro w55 H55
            refine wl_nil ?_
            refine wc_region ?_
            refine wl_v rfl rfl rfl (v_move rfl) ?_
            refine wl_v rfl rfl rfl (v_addi rfl rfl (by omega)) ?_
            refine wl_v rfl rfl rfl (v_assign rfl) ?_
            refine wl_nil ?_
            exact ⟨(j + 1, cg'.set ((laidF (atss (t.go.map gEnts)) (ordF (atss (t.go.map gEnts))) r).1.getD s 0 + (((t.go.map gEnts).getD s []).getD j enZ).at_).toNat (((t.go.map gEnts).getD s []).getD j enZ).to), (sc rfl (sc rfl (sc rfl (sc rfl (sc rfl (sc rfl (sc rfl (sn _)))))))), ⟨⟨by dsimp only; omega, hput⟩, H55.pm (by repeat constructor)⟩, by dsimp only; omega⟩
          · have c8p := of_decide_eq_false c8
            refine wc_exit ?_
            refine wc_region ?_
            refine wl_v rfl rfl rfl (v_move rfl) ?_
            refine wl_v rfl rfl rfl (v_addi rfl rfl (by omega)) ?_
            refine wl_v rfl rfl rfl (v_assign rfl) ?_
            refine wl_nil ?_
            exact ⟨(s + 1, cm', cg'), (sc rfl (sc rfl (sc rfl (sc rfl (sc rfl (sc rfl (sn _))))))), ⟨⟨by dsimp only; omega, hsm.next (by rw [atss_len]; omega), hsg.next (by rw [atss_len]; omega)⟩, H.pm (by repeat constructor)⟩, by dsimp only; omega⟩
      · have c6p := of_decide_eq_false c6
        obtain rfl : s = t.mv.length := by omega
        obtain rfl := sc_done hXM (by rw [List.length_map, hlm]) hsc1
        obtain rfl := sc_done hXG (by rw [List.length_map, hlg]; omega) hsc2
        refine wc_exit ?_
        refine wc_seq ?_
        refine wc_region ?_
        refine wl_v rfl rfl rfl (v_loadN agg41 rfl rfl (H.ats (by repeat constructor))) ?_
        refine wl_store (vs := [_, _, _, _, _, _, _, _, _]) H (by repeat constructor) sz41 rfl rfl rfl rfl rfl (by repeat constructor) ?_
        intro w56 H57 hw56
        refine wl_v rfl rfl rfl (v_assign rfl) ?_
        refine wl_nil ?_
        refine wc_ret ?_
        first
          | exact ⟨_, resc2 rfl rfl (run_loadVarN agg41 rfl (H57.ats (by repeat constructor))) rfl, ⟨none, none, none, none, none, none, none, 0, 0, 0, 0, 0, 0, 0⟩, by rw [pkAns, if_neg c0p]; rfl, by rw [pkAns, if_neg c0p]; exact (((((((H57.nilrow 48 2).nilrow 3 1).nilrow 3 1).nilrow 48 2).nilrow 3 1).nilrow 3 1).nilrow 3 1).pm (by repeat constructor)⟩
          | (refine ⟨_, resc2 rfl rfl (run_loadVarN agg41 rfl (H57.ats (by repeat constructor))) rfl, ⟨Ad, Ab, Ac, A136, Agb, Agc, A141, cd, cb2, cc, (laidF (atss (t.mv.map mEnts)) (ordF (atss (t.mv.map mEnts))) k).2.length, cgb, cgc, (laidF (atss (t.go.map gEnts)) (ordF (atss (t.go.map gEnts))) r).2.length⟩, ?_, ?_⟩
             · rw [← mEnts_atss, ← gEnts_atss, show pkAns t k r p (ordF (atss (t.mv.map mEnts))) (ordF (atss (t.go.map gEnts))) = packF t k r (ordF (atss (t.mv.map mEnts))) (ordF (atss (t.go.map gEnts))) by rw [pkAns, if_pos c0p], c0p]
               simp only [Pk.val, packF, ← mEnts_atss, ← gEnts_atss, htm, htg]
             · rw [← mEnts_atss, ← gEnts_atss, show pkAns t k r p (ordF (atss (t.mv.map mEnts))) (ordF (atss (t.go.map gEnts))) = packF t k r (ordF (atss (t.mv.map mEnts))) (ordF (atss (t.go.map gEnts))) by rw [pkAns, if_pos c0p]]
               simp only [OwnP, packF, ← mEnts_atss, ← gEnts_atss, htm, htg]
               exact H57.pm (by repeat constructor))
end Go.Proofs.Ytkpehkadammppaa.RPackW
