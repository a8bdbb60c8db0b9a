/- What table.Check tells. -/
import Derived.Test.YtkpehkadammppaaProg
import Derived.Test.YtkpehkadammppaaHeld
set_option linter.unusedVariables false
set_option linter.unusedSimpArgs false
namespace Go.Proofs.Ytkpehkadammppaa.Chk
open Go Go.RowKit Go.Proofs.YtkpehkadammppaaFx 
theorem agg25 : Agg Try.prog 25 2 := agg_of Try.underlying25 (by kernel_rfl)
theorem agg48 : Agg Try.prog 48 2 := agg_of Try.underlying48 (by kernel_rfl)
theorem ba83 : BuildAt Try.prog 83 [.slice none 0 0, .slice none 0 0, .int .i64 0, .int .i64 0, .int .i64 0, .slice none 0 0] [(0, 2), (2, 1), (3, 1), (4, 1), (5, 1)] := build_at Try.underlying83 (by kernel_rfl) (by kernel_rfl)
theorem en36 : Enters Try.prog 36 := enters Try.func36 (by kernel_rfl) rfl
theorem en37 : Enters Try.prog 37 := enters Try.func37 (by kernel_rfl) rfl
theorem fa25_0 : FieldAt Try.prog 25 0 0 := field_at (sz := 0) Try.underlying25 rfl (by kernel_rfl) rfl
theorem fa25_1 : FieldAt Try.prog 25 1 1 := field_at (sz := 0) Try.underlying25 rfl (by kernel_rfl) rfl
theorem fa48_0 : FieldAt Try.prog 48 0 0 := field_at (sz := 0) Try.underlying48 rfl (by kernel_rfl) rfl
theorem fa48_1 : FieldAt Try.prog 48 1 1 := field_at (sz := 0) Try.underlying48 rfl (by kernel_rfl) rfl
theorem fa83_0 : FieldAt Try.prog 83 0 0 := field_at (sz := 1) Try.underlying83 rfl (by kernel_rfl) rfl
theorem fa83_1 : FieldAt Try.prog 83 1 2 := field_at (sz := 0) Try.underlying83 rfl (by kernel_rfl) rfl
theorem fa83_2 : FieldAt Try.prog 83 2 3 := field_at (sz := 0) Try.underlying83 rfl (by kernel_rfl) rfl
theorem fa83_3 : FieldAt Try.prog 83 3 4 := field_at (sz := 0) Try.underlying83 rfl (by kernel_rfl) rfl
theorem fa83_4 : FieldAt Try.prog 83 4 5 := field_at (sz := 0) Try.underlying83 rfl (by kernel_rfl) rfl
theorem mixed : Try.prog.follows .mixedOrders = true := by kernel_rfl
theorem one22 : One Try.prog 22 := one_of Try.underlying22 rfl (by kernel_rfl)
theorem one23 : One Try.prog 23 := one_of Try.underlying23 rfl (by kernel_rfl)
theorem one3 : One Try.prog 3 := one_of Try.underlying3 rfl (by kernel_rfl)
theorem one38 : One Try.prog 38 := one_of Try.underlying38 rfl (by kernel_rfl)
theorem one39 : One Try.prog 39 := one_of Try.underlying39 rfl (by kernel_rfl)
theorem one81 : One Try.prog 81 := one_of Try.underlying81 rfl (by kernel_rfl)
theorem one84 : One Try.prog 84 := one_of Try.underlying84 rfl (by kernel_rfl)
theorem sz3 : ∀ W, (sizeOf 3).run Try.prog W = .ok 1 W := size_of (by kernel_rfl)
theorem sz38 : ∀ W, (sizeOf 38).run Try.prog W = .ok 1 W := size_of (by kernel_rfl)
theorem sz39 : ∀ W, (sizeOf 39).run Try.prog W = .ok 1 W := size_of (by kernel_rfl)
theorem sz48 : ∀ W, (sizeOf 48).run Try.prog W = .ok 2 W := size_of (by kernel_rfl)
theorem sz81 : ∀ W, (sizeOf 81).run Try.prog W = .ok 1 W := size_of (by kernel_rfl)
theorem sz84 : ∀ W, (sizeOf 84).run Try.prog W = .ok 1 W := size_of (by kernel_rfl)
theorem zv48 : ∀ W, (zeroValue 48).run Try.prog W = .ok (.agg #[.int .i64 0, .int .i64 0]) W := zero_of (by kernel_rfl)
theorem zv84 : ∀ W, (zeroValue 84).run Try.prog W = .ok (.nilFunc) W := zero_of (by kernel_rfl)

set_option maxRecDepth 100000 in
theorem cmoves_calls {A B : Option Addr} {ca cb b s0 : Nat} {t : Tb} {k r p : Int} {ec : Value} {w : World} (hx : t.rd w A B) (hk : t.ok) (hs0 : s0 < t.mv.length) (hc : ∀ j v, ([.slice A t.mv.length ca, .slice B t.go.length cb, .int .i64 k, .int .i64 r, .int .i64 p, ec] : List Value)[j]? = some v → w.cell? ⟨b, j, none⟩ = some v) :
    Calls Try.prog 36 #[.pointer (some ⟨b, 0, none⟩), .int .i64 s0] w fun e w' => ∃ v, e = .returned v ∧ v = .bool (dec (((t.mv.getD s0 []).length : Int) = k ∧ ∀ j, j < (t.mv.getD s0 []).length → mvOk ((t.mv.getD s0 []).getD j mv0) t.mv.length p)) ∧ Holds w [] w' := by
  have hM := hx.m
  have hG := hx.g
  have q1 := hk.m'
  have q2 := hk.g'
  have q3 := hk.ml (i := s0) (by omega)
  refine calls_of Try.func36 rfl Try.ntmps36 rfl ?_
  have H := Holds.start w
  refine wc_seq ?_
  refine wc_region ?_
  refine wl_v rfl rfl rfl (v_assign rfl) ?_
  refine wl_nil ?_
  refine wc_seq ?_
  refine wc_seq ?_
  refine wc_still mixed (by kernel_rfl) ?_
  have Hd := H.drew
  refine ws_v rfl rfl rfl (v_move rfl) ?_
  refine ws_v rfl rfl rfl (v_nil rfl) ?_
  refine ws_v rfl rfl rfl (v_fb (o2 := 0) fa83_0 rfl rfl) ?_
  refine ws_v rfl rfl rfl (v_fb (o2 := 0) fa25_0 rfl rfl) ?_
  refine ws_v rfl rfl rfl (v_load one22 rfl (Hd.cell (hc 0 _ rfl))) ?_
  refine ws_v rfl rfl rfl (v_move rfl) ?_
  refine ws_v rfl rfl rfl (v_idx Try.underlying22 sz38 hM.ad rfl rfl (by omega) (by omega)) ?_
  obtain ⟨B15, cp15, hc15, hl15, hr15⟩ := hM.atSlN (i := s0) (by omega)
  refine ws_v rfl rfl rfl (v_load one38 rfl (Hd.cell (hc15))) ?_
  refine ws_v rfl rfl rfl (v_len Try.underlying38 rfl) ?_
  refine ws_v rfl rfl rfl (v_move rfl) ?_
  refine ws_v rfl rfl rfl (v_nil rfl) ?_
  refine ws_v rfl rfl rfl (v_fb (o2 := 2) fa83_1 rfl rfl) ?_
  refine ws_v rfl rfl rfl (v_load one3 rfl (Hd.cell (hc 2 _ rfl))) ?_
  refine ws_v rfl rfl rfl (v_neq rfl rfl) ?_
  refine ws_nil ?_
  refine wc_cond rfl (fun c0 => ?_) (fun c0 => ?_)
  · have c0p := of_nd_t c0
    refine wc_seq ?_
    refine wc_region ?_
    refine wl_v rfl rfl rfl (v_assign rfl) ?_
    refine wl_nil ?_
    refine wc_ret ?_
    first
      | exact ⟨_, res1 rfl rfl, congrArg Value.bool (dec_t ⟨c0p, fun j hj => ha j (by omega)⟩).symm, Hd⟩
      | exact ⟨_, res1 rfl rfl, congrArg Value.bool (dec_f fun hh => c0p hh.1).symm, Hd.pm (by repeat constructor)⟩
      | exact ⟨_, res1 rfl rfl, congrArg Value.bool (dec_f fun hh => by have h5 := hh.2 i (by omega); unfold mvOk at h5; omega).symm, Hd.pm (by repeat constructor)⟩
  · have c0p := of_nd_f c0
    refine wc_skip ?_
    refine wc_seq ?_
    refine wc_seq ?_
    refine wc_region ?_
    refine wl_v rfl rfl rfl (v_move rfl) ?_
    refine wl_v rfl rfl rfl (v_nil rfl) ?_
    refine wl_v rfl rfl rfl (v_fb (o2 := 0) fa83_0 rfl rfl) ?_
    refine wl_v rfl rfl rfl (v_fb (o2 := 0) fa25_0 rfl rfl) ?_
    refine wl_v rfl rfl rfl (v_load one22 rfl (Hd.cell (hc 0 _ rfl))) ?_
    refine wl_v rfl rfl rfl (v_move rfl) ?_
    refine wl_v rfl rfl rfl (v_idx Try.underlying22 sz38 hM.ad rfl rfl (by omega) (by omega)) ?_
    obtain ⟨B29, cp29, hc29, hl29, hr29⟩ := hM.atSlN (i := s0) (by omega)
    refine wl_v rfl rfl rfl (v_load one38 rfl (Hd.cell (hc29))) ?_
    refine wl_v rfl rfl rfl (v_len Try.underlying38 rfl) ?_
    refine wl_v rfl rfl rfl (v_move rfl) ?_
    refine wl_nil ?_
    refine wc_block ?_
    refine wc_loop (σ := Nat) (fun s => [(0, .pointer (some ⟨b, 0, none⟩)), (29, .slice B29 (t.mv.getD s0 []).length cp29), (30, .int .i64 (t.mv.getD s0 []).length), (31, .int .i64 s)]) (fun s W => s ≤ (t.mv.getD s0 []).length ∧ (∀ j, j < s → mvOk ((t.mv.getD s0 []).getD j mv0) t.mv.length p) ∧ Holds w [] W) (fun s => (t.mv.getD s0 []).length - s) 0 (sc rfl (sc rfl (sc rfl (sc rfl (sn _))))) ⟨Nat.zero_le _, upto_zero, Hd⟩ ?_
    rintro i W0 ⟨hi, ha, H⟩
    refine wc_seq ?_
    refine wc_region ?_
    refine wl_v rfl rfl rfl (v_lss rfl rfl) ?_
    refine wl_nil ?_
    refine wc_seq ?_
    refine wc_cond rfl (fun c1 => ?_) (fun c1 => ?_)
    · have c1p := of_decide_eq_true c1
      refine wc_skip ?_
      refine wc_seq ?_
      refine wc_block ?_
      refine wc_seq ?_
      refine wc_region ?_
      refine wl_v rfl rfl rfl (v_idx Try.underlying38 sz48 hr29.ad rfl rfl (by omega) (by omega)) ?_
      refine wl_v rfl rfl rfl (v_loadN (cs := fMv.enc _) agg48 rfl rfl (fun k u hu => H.cell (hr29.atN (i := i) (k := k) mv0 (by omega) hu))) ?_
      refine wl_alloc (cs := [.int .i64 0, .int .i64 0]) H rfl zv48 rfl ?_
      intro b6 w1 hb6 H2
      refine wl_store (vs := [_, _]) H2 (by repeat constructor) sz48 rfl rfl rfl rfl rfl (by repeat constructor) ?_
      intro w3 H4 hw3
      refine wl_nil ?_
      refine wc_seq ?_
      refine wc_region ?_
      refine wl_v rfl rfl rfl (v_fb (o2 := 1) fa48_1 rfl rfl) ?_
      refine wl_v rfl rfl rfl (v_load one3 rfl (H4.at (by repeat constructor) rfl)) ?_
      refine wl_v rfl rfl rfl (v_eql rfl rfl) ?_
      refine wl_v rfl rfl rfl (v_assign rfl) ?_
      refine wl_nil ?_
      refine wc_seq ?_
      refine wc_seq ?_
      refine wc_region ?_
      refine wl_v rfl rfl rfl (v_fb (o2 := 0) fa48_0 rfl rfl) ?_
      refine wl_v rfl rfl rfl (v_load one3 rfl (H4.at (by repeat constructor) rfl)) ?_
      refine wl_nil ?_
      refine wc_block ?_
      refine wc_seq ?_
      refine wc_region ?_
      refine wl_v rfl rfl rfl (v_eql rfl rfl) ?_
      refine wl_v rfl rfl rfl (v_assign rfl) ?_
      refine wl_nil ?_
      refine wc_cond rfl (fun c2 => ?_) (fun c2 => ?_)
      · have c2p := of_decide_eq_true c2
        refine wc_still mixed (by kernel_rfl) ?_
        have Hd := H4.drew
        refine ws_v rfl rfl rfl (v_fb (o2 := 1) fa48_1 rfl rfl) ?_
        refine ws_v rfl rfl rfl (v_load one3 rfl (Hd.at (by repeat constructor) rfl)) ?_
        refine ws_v rfl rfl rfl (v_geq rfl rfl) ?_
        refine ws_v rfl rfl rfl (v_move rfl) ?_
        refine ws_guard rfl rfl rfl (fun g45 => ?_) (fun g45 => ?_)
        · have g45p := of_decide_eq_true g45
          refine ws_v rfl rfl rfl (v_fb (o2 := 1) fa48_1 rfl rfl) ?_
          refine ws_on' rfl rfl g45 ?_
          refine ws_v rfl rfl rfl (v_load one3 rfl (Hd.at (by repeat constructor) rfl)) ?_
          refine ws_on' rfl rfl g45 ?_
          refine ws_v rfl rfl rfl (v_move rfl) ?_
          refine ws_on' rfl rfl g45 ?_
          refine ws_v rfl rfl rfl (v_nil rfl) ?_
          refine ws_on' rfl rfl g45 ?_
          refine ws_v rfl rfl rfl (v_fb (o2 := 0) fa83_0 rfl rfl) ?_
          refine ws_on' rfl rfl g45 ?_
          refine ws_v rfl rfl rfl (v_fb (o2 := 0) fa25_0 rfl rfl) ?_
          refine ws_on' rfl rfl g45 ?_
          refine ws_v rfl rfl rfl (v_load one22 rfl (Hd.cell (hc 0 _ rfl))) ?_
          refine ws_on' rfl rfl g45 ?_
          refine ws_v rfl rfl rfl (v_len Try.underlying22 rfl) ?_
          refine ws_on' rfl rfl g45 ?_
          refine ws_v rfl rfl rfl (v_lss rfl rfl) ?_
          refine ws_v rfl rfl rfl (v_pick_t rfl g45 rfl) ?_
          refine ws_v rfl rfl rfl (v_assign rfl) ?_
          refine ws_nil ?_
          refine wc_seq ?_
          refine wc_region ?_
          refine wl_v rfl rfl rfl (v_move rfl) ?_
          refine wl_v rfl rfl rfl (v_not rfl) ?_
          refine wl_nil ?_
          refine wc_cond rfl (fun c6 => ?_) (fun c6 => ?_)
          · have c6p := of_nd_t c6
            refine wc_seq ?_
            refine wc_region ?_
            refine wl_v rfl rfl rfl (v_assign rfl) ?_
            refine wl_nil ?_
            refine wc_ret ?_
            first
              | exact ⟨_, res1 rfl rfl, congrArg Value.bool (dec_t ⟨c0p, fun j hj => ha j (by omega)⟩).symm, Hd⟩
              | exact ⟨_, res1 rfl rfl, congrArg Value.bool (dec_f fun hh => c0p hh.1).symm, Hd.pm (by repeat constructor)⟩
              | exact ⟨_, res1 rfl rfl, congrArg Value.bool (dec_f fun hh => by have h5 := hh.2 i (by omega); unfold mvOk at h5; omega).symm, Hd.pm (by repeat constructor)⟩
          · have c6p := of_nd_f c6
            refine wc_skip ?_
            refine wc_region ?_
            refine wl_v rfl rfl rfl (v_addi rfl rfl (by omega)) ?_
            refine wl_v rfl rfl rfl (v_move rfl) ?_
            refine wl_nil ?_
            exact ⟨i + 1, (sc rfl (sc rfl (sc rfl (sc rfl (sn _))))), ⟨by omega, upto_succ ha (by unfold mvOk; omega), Hd.pm (by repeat constructor)⟩, by omega⟩
        · have g45p := of_decide_eq_false g45
          refine ws_off rfl rfl g45 rfl ?_
          refine ws_off rfl rfl g45 rfl ?_
          refine ws_off rfl rfl g45 rfl ?_
          refine ws_off rfl rfl g45 rfl ?_
          refine ws_off rfl rfl g45 rfl ?_
          refine ws_off rfl rfl g45 rfl ?_
          refine ws_off rfl rfl g45 rfl ?_
          refine ws_off rfl rfl g45 rfl ?_
          refine ws_v rfl rfl rfl (v_pick_f rfl g45 rfl) ?_
          refine ws_v rfl rfl rfl (v_assign rfl) ?_
          refine ws_nil ?_
          refine wc_seq ?_
          refine wc_region ?_
          refine wl_v rfl rfl rfl (v_move rfl) ?_
          refine wl_v rfl rfl rfl (v_not rfl) ?_
          refine wl_nil ?_
          refine wc_cond_t rfl ?_
          refine wc_seq ?_
          refine wc_region ?_
          refine wl_v rfl rfl rfl (v_assign rfl) ?_
          refine wl_nil ?_
          refine wc_ret ?_
          first
            | exact ⟨_, res1 rfl rfl, congrArg Value.bool (dec_t ⟨c0p, fun j hj => ha j (by omega)⟩).symm, Hd⟩
            | exact ⟨_, res1 rfl rfl, congrArg Value.bool (dec_f fun hh => c0p hh.1).symm, Hd.pm (by repeat constructor)⟩
            | exact ⟨_, res1 rfl rfl, congrArg Value.bool (dec_f fun hh => by have h5 := hh.2 i (by omega); unfold mvOk at h5; omega).symm, Hd.pm (by repeat constructor)⟩
      · have c2p := of_decide_eq_false c2
        refine wc_seq ?_
        refine wc_region ?_
        refine wl_v rfl rfl rfl (v_eql rfl rfl) ?_
        refine wl_v rfl rfl rfl (v_assign rfl) ?_
        refine wl_nil ?_
        refine wc_cond rfl (fun c3 => ?_) (fun c3 => ?_)
        · have c3p := of_decide_eq_true c3
          refine wc_still mixed (by kernel_rfl) ?_
          have Hd := H4.drew
          refine ws_v rfl rfl rfl (v_fb (o2 := 1) fa48_1 rfl rfl) ?_
          refine ws_v rfl rfl rfl (v_load one3 rfl (Hd.at (by repeat constructor) rfl)) ?_
          refine ws_v rfl rfl rfl (v_geq rfl rfl) ?_
          refine ws_v rfl rfl rfl (v_move rfl) ?_
          refine ws_guard rfl rfl rfl (fun g61 => ?_) (fun g61 => ?_)
          · have g61p := of_decide_eq_true g61
            refine ws_v rfl rfl rfl (v_fb (o2 := 1) fa48_1 rfl rfl) ?_
            refine ws_on' rfl rfl g61 ?_
            refine ws_v rfl rfl rfl (v_load one3 rfl (Hd.at (by repeat constructor) rfl)) ?_
            refine ws_on' rfl rfl g61 ?_
            refine ws_v rfl rfl rfl (v_move rfl) ?_
            refine ws_on' rfl rfl g61 ?_
            refine ws_v rfl rfl rfl (v_nil rfl) ?_
            refine ws_on' rfl rfl g61 ?_
            refine ws_v rfl rfl rfl (v_fb (o2 := 4) fa83_3 rfl rfl) ?_
            refine ws_on' rfl rfl g61 ?_
            refine ws_v rfl rfl rfl (v_load one3 rfl (Hd.cell (hc 4 _ rfl))) ?_
            refine ws_on' rfl rfl g61 ?_
            refine ws_v rfl rfl rfl (v_lss rfl rfl) ?_
            refine ws_v rfl rfl rfl (v_pick_t rfl g61 rfl) ?_
            refine ws_v rfl rfl rfl (v_assign rfl) ?_
            refine ws_nil ?_
            refine wc_seq ?_
            refine wc_region ?_
            refine wl_v rfl rfl rfl (v_move rfl) ?_
            refine wl_v rfl rfl rfl (v_not rfl) ?_
            refine wl_nil ?_
            refine wc_cond rfl (fun c6 => ?_) (fun c6 => ?_)
            · have c6p := of_nd_t c6
              refine wc_seq ?_
              refine wc_region ?_
              refine wl_v rfl rfl rfl (v_assign rfl) ?_
              refine wl_nil ?_
              refine wc_ret ?_
              first
                | exact ⟨_, res1 rfl rfl, congrArg Value.bool (dec_t ⟨c0p, fun j hj => ha j (by omega)⟩).symm, Hd⟩
                | exact ⟨_, res1 rfl rfl, congrArg Value.bool (dec_f fun hh => c0p hh.1).symm, Hd.pm (by repeat constructor)⟩
                | exact ⟨_, res1 rfl rfl, congrArg Value.bool (dec_f fun hh => by have h5 := hh.2 i (by omega); unfold mvOk at h5; omega).symm, Hd.pm (by repeat constructor)⟩
            · have c6p := of_nd_f c6
              refine wc_skip ?_
              refine wc_region ?_
              refine wl_v rfl rfl rfl (v_addi rfl rfl (by omega)) ?_
              refine wl_v rfl rfl rfl (v_move rfl) ?_
              refine wl_nil ?_
              exact ⟨i + 1, (sc rfl (sc rfl (sc rfl (sc rfl (sn _))))), ⟨by omega, upto_succ ha (by unfold mvOk; omega), Hd.pm (by repeat constructor)⟩, by omega⟩
          · have g61p := of_decide_eq_false g61
            refine ws_off rfl rfl g61 rfl ?_
            refine ws_off rfl rfl g61 rfl ?_
            refine ws_off rfl rfl g61 rfl ?_
            refine ws_off rfl rfl g61 rfl ?_
            refine ws_off rfl rfl g61 rfl ?_
            refine ws_off rfl rfl g61 rfl ?_
            refine ws_v rfl rfl rfl (v_pick_f rfl g61 rfl) ?_
            refine ws_v rfl rfl rfl (v_assign rfl) ?_
            refine ws_nil ?_
            refine wc_seq ?_
            refine wc_region ?_
            refine wl_v rfl rfl rfl (v_move rfl) ?_
            refine wl_v rfl rfl rfl (v_not rfl) ?_
            refine wl_nil ?_
            refine wc_cond_t rfl ?_
            refine wc_seq ?_
            refine wc_region ?_
            refine wl_v rfl rfl rfl (v_assign rfl) ?_
            refine wl_nil ?_
            refine wc_ret ?_
            first
              | exact ⟨_, res1 rfl rfl, congrArg Value.bool (dec_t ⟨c0p, fun j hj => ha j (by omega)⟩).symm, Hd⟩
              | exact ⟨_, res1 rfl rfl, congrArg Value.bool (dec_f fun hh => c0p hh.1).symm, Hd.pm (by repeat constructor)⟩
              | exact ⟨_, res1 rfl rfl, congrArg Value.bool (dec_f fun hh => by have h5 := hh.2 i (by omega); unfold mvOk at h5; omega).symm, Hd.pm (by repeat constructor)⟩
        · have c3p := of_decide_eq_false c3
          refine wc_seq ?_
          refine wc_seq ?_
          refine wc_region ?_
          refine wl_v rfl rfl rfl (v_eql rfl rfl) ?_
          refine wl_v rfl rfl rfl (v_assign rfl) ?_
          refine wl_nil ?_
          refine wc_cond rfl (fun c4 => ?_) (fun c4 => ?_)
          · have c4p := of_decide_eq_true c4
            refine wc_skip ?_
            refine wc_cond_y rfl c4 ?_
            refine wc_skip ?_
            refine wc_seq ?_
            refine wc_region ?_
            refine wl_v rfl rfl rfl (v_move rfl) ?_
            refine wl_v rfl rfl rfl (v_not rfl) ?_
            refine wl_nil ?_
            refine wc_cond rfl (fun c6 => ?_) (fun c6 => ?_)
            · have c6p := of_nd_t c6
              refine wc_seq ?_
              refine wc_region ?_
              refine wl_v rfl rfl rfl (v_assign rfl) ?_
              refine wl_nil ?_
              refine wc_ret ?_
              first
                | exact ⟨_, res1 rfl rfl, congrArg Value.bool (dec_t ⟨c0p, fun j hj => ha j (by omega)⟩).symm, H4⟩
                | exact ⟨_, res1 rfl rfl, congrArg Value.bool (dec_f fun hh => c0p hh.1).symm, H4.pm (by repeat constructor)⟩
                | exact ⟨_, res1 rfl rfl, congrArg Value.bool (dec_f fun hh => by have h5 := hh.2 i (by omega); unfold mvOk at h5; omega).symm, H4.pm (by repeat constructor)⟩
            · have c6p := of_nd_f c6
              refine wc_skip ?_
              refine wc_region ?_
              refine wl_v rfl rfl rfl (v_addi rfl rfl (by omega)) ?_
              refine wl_v rfl rfl rfl (v_move rfl) ?_
              refine wl_nil ?_
              exact ⟨i + 1, (sc rfl (sc rfl (sc rfl (sc rfl (sn _))))), ⟨by omega, upto_succ ha (by unfold mvOk; omega), H4.pm (by repeat constructor)⟩, by omega⟩
          · have c4p := of_decide_eq_false c4
            refine wc_region ?_
            refine wl_v rfl rfl rfl (v_eql rfl rfl) ?_
            refine wl_v rfl rfl rfl (v_assign rfl) ?_
            refine wl_nil ?_
            refine wc_cond rfl (fun c5 => ?_) (fun c5 => ?_)
            · have c5p := of_decide_eq_true c5
              refine wc_skip ?_
              refine wc_seq ?_
              refine wc_region ?_
              refine wl_v rfl rfl rfl (v_move rfl) ?_
              refine wl_v rfl rfl rfl (v_not rfl) ?_
              refine wl_nil ?_
              refine wc_cond rfl (fun c6 => ?_) (fun c6 => ?_)
              · have c6p := of_nd_t c6
                refine wc_seq ?_
                refine wc_region ?_
                refine wl_v rfl rfl rfl (v_assign rfl) ?_
                refine wl_nil ?_
                refine wc_ret ?_
                first
                  | exact ⟨_, res1 rfl rfl, congrArg Value.bool (dec_t ⟨c0p, fun j hj => ha j (by omega)⟩).symm, H4⟩
                  | exact ⟨_, res1 rfl rfl, congrArg Value.bool (dec_f fun hh => c0p hh.1).symm, H4.pm (by repeat constructor)⟩
                  | exact ⟨_, res1 rfl rfl, congrArg Value.bool (dec_f fun hh => by have h5 := hh.2 i (by omega); unfold mvOk at h5; omega).symm, H4.pm (by repeat constructor)⟩
              · have c6p := of_nd_f c6
                refine wc_skip ?_
                refine wc_region ?_
                refine wl_v rfl rfl rfl (v_addi rfl rfl (by omega)) ?_
                refine wl_v rfl rfl rfl (v_move rfl) ?_
                refine wl_nil ?_
                exact ⟨i + 1, (sc rfl (sc rfl (sc rfl (sc rfl (sn _))))), ⟨by omega, upto_succ ha (by unfold mvOk; omega), H4.pm (by repeat constructor)⟩, by omega⟩
            · have c5p := of_decide_eq_false c5
              refine wc_region ?_
              refine wl_v rfl rfl rfl (v_assign rfl) ?_
              refine wl_nil ?_
              refine wc_seq ?_
              refine wc_region ?_
              refine wl_v rfl rfl rfl (v_move rfl) ?_
              refine wl_v rfl rfl rfl (v_not rfl) ?_
              refine wl_nil ?_
              refine wc_cond_t rfl ?_
              refine wc_seq ?_
              refine wc_region ?_
              refine wl_v rfl rfl rfl (v_assign rfl) ?_
              refine wl_nil ?_
              refine wc_ret ?_
              first
                | exact ⟨_, res1 rfl rfl, congrArg Value.bool (dec_t ⟨c0p, fun j hj => ha j (by omega)⟩).symm, H4⟩
                | exact ⟨_, res1 rfl rfl, congrArg Value.bool (dec_f fun hh => c0p hh.1).symm, H4.pm (by repeat constructor)⟩
                | exact ⟨_, res1 rfl rfl, congrArg Value.bool (dec_f fun hh => by have h5 := hh.2 i (by omega); unfold mvOk at h5; omega).symm, H4.pm (by repeat constructor)⟩
    · have c1p := of_decide_eq_false c1
      refine wc_exit ?_
      refine wc_seq ?_
      refine wc_region ?_
      refine wl_v rfl rfl rfl (v_assign rfl) ?_
      refine wl_nil ?_
      refine wc_ret ?_
      first
        | exact ⟨_, res1 rfl rfl, congrArg Value.bool (dec_t ⟨c0p, fun j hj => ha j (by omega)⟩).symm, H⟩
        | exact ⟨_, res1 rfl rfl, congrArg Value.bool (dec_f fun hh => c0p hh.1).symm, H.pm (by repeat constructor)⟩
        | exact ⟨_, res1 rfl rfl, congrArg Value.bool (dec_f fun hh => by have h5 := hh.2 i (by omega); unfold mvOk at h5; omega).symm, H.pm (by repeat constructor)⟩

set_option maxRecDepth 100000 in
theorem cgotos_calls {A B : Option Addr} {ca cb b s0 : Nat} {t : Tb} {k r p : Int} {ec : Value} {w : World} (hx : t.rd w A B) (hk : t.ok) (hs0 : s0 < t.go.length) (hc : ∀ j v, ([.slice A t.mv.length ca, .slice B t.go.length cb, .int .i64 k, .int .i64 r, .int .i64 p, ec] : List Value)[j]? = some v → w.cell? ⟨b, j, none⟩ = some v) :
    Calls Try.prog 37 #[.pointer (some ⟨b, 0, none⟩), .int .i64 s0] w fun e w' => ∃ v, e = .returned v ∧ v = .bool (dec (((t.go.getD s0 []).length : Int) = r ∧ ∀ j, j < (t.go.getD s0 []).length → goOk ((t.go.getD s0 []).getD j 0) t.mv.length)) ∧ Holds w [] w' := by
  have hM := hx.m
  have hG := hx.g
  have q1 := hk.m'
  have q2 := hk.g'
  have q3 := hk.gl (i := s0) (by omega)
  refine calls_of Try.func37 rfl Try.ntmps37 rfl ?_
  have H := Holds.start w
  refine wc_seq ?_
  refine wc_region ?_
  refine wl_v rfl rfl rfl (v_assign rfl) ?_
  refine wl_nil ?_
  refine wc_seq ?_
  refine wc_seq ?_
  refine wc_still mixed (by kernel_rfl) ?_
  have Hd := H.drew
  refine ws_v rfl rfl rfl (v_move rfl) ?_
  refine ws_v rfl rfl rfl (v_nil rfl) ?_
  refine ws_v rfl rfl rfl (v_fb (o2 := 0) fa83_0 rfl rfl) ?_
  refine ws_v rfl rfl rfl (v_fb (o2 := 1) fa25_1 rfl rfl) ?_
  refine ws_v rfl rfl rfl (v_load one23 rfl (Hd.cell (hc 1 _ rfl))) ?_
  refine ws_v rfl rfl rfl (v_move rfl) ?_
  refine ws_v rfl rfl rfl (v_idx Try.underlying23 sz39 hG.ad rfl rfl (by omega) (by omega)) ?_
  obtain ⟨B14, cp14, hc14, hl14, hr14⟩ := hG.atSlN (i := s0) (by omega)
  refine ws_v rfl rfl rfl (v_load one39 rfl (Hd.cell (hc14))) ?_
  refine ws_v rfl rfl rfl (v_len Try.underlying39 rfl) ?_
  refine ws_v rfl rfl rfl (v_move rfl) ?_
  refine ws_v rfl rfl rfl (v_nil rfl) ?_
  refine ws_v rfl rfl rfl (v_fb (o2 := 3) fa83_2 rfl rfl) ?_
  refine ws_v rfl rfl rfl (v_load one3 rfl (Hd.cell (hc 3 _ rfl))) ?_
  refine ws_v rfl rfl rfl (v_neq rfl rfl) ?_
  refine ws_nil ?_
  refine wc_cond rfl (fun c0 => ?_) (fun c0 => ?_)
  · have c0p := of_nd_t c0
    refine wc_seq ?_
    refine wc_region ?_
    refine wl_v rfl rfl rfl (v_assign rfl) ?_
    refine wl_nil ?_
    refine wc_ret ?_
    first
      | exact ⟨_, res1 rfl rfl, congrArg Value.bool (dec_t ⟨c0p, fun j hj => ha j (by omega)⟩).symm, Hd⟩
      | exact ⟨_, res1 rfl rfl, congrArg Value.bool (dec_f fun hh => c0p hh.1).symm, Hd.pm (by repeat constructor)⟩
      | exact ⟨_, res1 rfl rfl, congrArg Value.bool (dec_f fun hh => by have h5 := hh.2 i (by omega); unfold goOk at h5; omega).symm, Hd.pm (by repeat constructor)⟩
  · have c0p := of_nd_f c0
    refine wc_skip ?_
    refine wc_seq ?_
    refine wc_seq ?_
    refine wc_region ?_
    refine wl_v rfl rfl rfl (v_move rfl) ?_
    refine wl_v rfl rfl rfl (v_nil rfl) ?_
    refine wl_v rfl rfl rfl (v_fb (o2 := 0) fa83_0 rfl rfl) ?_
    refine wl_v rfl rfl rfl (v_fb (o2 := 1) fa25_1 rfl rfl) ?_
    refine wl_v rfl rfl rfl (v_load one23 rfl (Hd.cell (hc 1 _ rfl))) ?_
    refine wl_v rfl rfl rfl (v_move rfl) ?_
    refine wl_v rfl rfl rfl (v_idx Try.underlying23 sz39 hG.ad rfl rfl (by omega) (by omega)) ?_
    obtain ⟨B28, cp28, hc28, hl28, hr28⟩ := hG.atSlN (i := s0) (by omega)
    refine wl_v rfl rfl rfl (v_load one39 rfl (Hd.cell (hc28))) ?_
    refine wl_v rfl rfl rfl (v_len Try.underlying39 rfl) ?_
    refine wl_v rfl rfl rfl (v_move rfl) ?_
    refine wl_nil ?_
    refine wc_block ?_
    refine wc_loop (σ := Nat) (fun s => [(0, .pointer (some ⟨b, 0, none⟩)), (28, .slice B28 (t.go.getD s0 []).length cp28), (29, .int .i64 (t.go.getD s0 []).length), (30, .int .i64 s)]) (fun s W => s ≤ (t.go.getD s0 []).length ∧ (∀ j, j < s → goOk ((t.go.getD s0 []).getD j 0) t.mv.length) ∧ Holds w [] W) (fun s => (t.go.getD s0 []).length - s) 0 (sc rfl (sc rfl (sc rfl (sc rfl (sn _))))) ⟨Nat.zero_le _, upto_zero, Hd⟩ ?_
    rintro i W0 ⟨hi, ha, H⟩
    refine wc_seq ?_
    refine wc_region ?_
    refine wl_v rfl rfl rfl (v_lss rfl rfl) ?_
    refine wl_nil ?_
    refine wc_seq ?_
    refine wc_cond rfl (fun c1 => ?_) (fun c1 => ?_)
    · have c1p := of_decide_eq_true c1
      refine wc_skip ?_
      refine wc_seq ?_
      refine wc_block ?_
      refine wc_seq ?_
      refine wc_region ?_
      refine wl_v rfl rfl rfl (v_idx Try.underlying39 sz3 hr28.ad rfl rfl (by omega) (by omega)) ?_
      refine wl_v rfl rfl rfl (v_load one3 rfl (H.cell (hr28.at1N (i := i) (by omega)))) ?_
      refine wl_v rfl rfl rfl (v_assign rfl) ?_
      refine wl_nil ?_
      refine wc_seq ?_
      refine wc_region ?_
      refine wl_v rfl rfl rfl (v_move rfl) ?_
      refine wl_v rfl rfl rfl (v_lss rfl rfl) ?_
      refine wl_v rfl rfl rfl (v_move rfl) ?_
      refine wl_guard rfl rfl rfl (fun g36 => ?_) (fun g36 => ?_)
      · have g36p := of_decide_eq_false g36
        refine wl_v rfl rfl rfl (v_move rfl) ?_
        refine wl_on' rfl rfl g36 ?_
        refine wl_v rfl rfl rfl (v_move rfl) ?_
        refine wl_on' rfl rfl g36 ?_
        refine wl_v rfl rfl rfl (v_nil rfl) ?_
        refine wl_on' rfl rfl g36 ?_
        refine wl_v rfl rfl rfl (v_fb (o2 := 0) fa83_0 rfl rfl) ?_
        refine wl_on' rfl rfl g36 ?_
        refine wl_v rfl rfl rfl (v_fb (o2 := 0) fa25_0 rfl rfl) ?_
        refine wl_on' rfl rfl g36 ?_
        refine wl_v rfl rfl rfl (v_load one22 rfl (H.cell (hc 0 _ rfl))) ?_
        refine wl_on' rfl rfl g36 ?_
        refine wl_v rfl rfl rfl (v_len Try.underlying22 rfl) ?_
        refine wl_on' rfl rfl g36 ?_
        refine wl_v rfl rfl rfl (v_geq rfl rfl) ?_
        refine wl_v rfl rfl rfl (v_pick_f rfl g36 rfl) ?_
        refine wl_nil ?_
        refine wc_cond rfl (fun c2 => ?_) (fun c2 => ?_)
        · have c2p := of_decide_eq_true c2
          refine wc_seq ?_
          refine wc_region ?_
          refine wl_v rfl rfl rfl (v_assign rfl) ?_
          refine wl_nil ?_
          refine wc_ret ?_
          first
            | exact ⟨_, res1 rfl rfl, congrArg Value.bool (dec_t ⟨c0p, fun j hj => ha j (by omega)⟩).symm, H⟩
            | exact ⟨_, res1 rfl rfl, congrArg Value.bool (dec_f fun hh => c0p hh.1).symm, H.pm (by repeat constructor)⟩
            | exact ⟨_, res1 rfl rfl, congrArg Value.bool (dec_f fun hh => by have h5 := hh.2 i (by omega); unfold goOk at h5; omega).symm, H.pm (by repeat constructor)⟩
        · have c2p := of_decide_eq_false c2
          refine wc_skip ?_
          refine wc_region ?_
          refine wl_v rfl rfl rfl (v_addi rfl rfl (by omega)) ?_
          refine wl_v rfl rfl rfl (v_move rfl) ?_
          refine wl_nil ?_
          exact ⟨i + 1, (sc rfl (sc rfl (sc rfl (sc rfl (sn _))))), ⟨by omega, upto_succ ha (by unfold goOk; omega), H.pm (by repeat constructor)⟩, by omega⟩
      · have g36p := of_decide_eq_true g36
        refine wl_off rfl rfl g36 rfl ?_
        refine wl_off rfl rfl g36 rfl ?_
        refine wl_off rfl rfl g36 rfl ?_
        refine wl_off rfl rfl g36 rfl ?_
        refine wl_off rfl rfl g36 rfl ?_
        refine wl_off rfl rfl g36 rfl ?_
        refine wl_off rfl rfl g36 rfl ?_
        refine wl_v rfl rfl rfl (v_pick_t rfl g36 rfl) ?_
        refine wl_nil ?_
        refine wc_cond_t rfl ?_
        refine wc_seq ?_
        refine wc_region ?_
        refine wl_v rfl rfl rfl (v_assign rfl) ?_
        refine wl_nil ?_
        refine wc_ret ?_
        first
          | exact ⟨_, res1 rfl rfl, congrArg Value.bool (dec_t ⟨c0p, fun j hj => ha j (by omega)⟩).symm, H⟩
          | exact ⟨_, res1 rfl rfl, congrArg Value.bool (dec_f fun hh => c0p hh.1).symm, H.pm (by repeat constructor)⟩
          | exact ⟨_, res1 rfl rfl, congrArg Value.bool (dec_f fun hh => by have h5 := hh.2 i (by omega); unfold goOk at h5; omega).symm, H.pm (by repeat constructor)⟩
    · have c1p := of_decide_eq_false c1
      refine wc_exit ?_
      refine wc_seq ?_
      refine wc_region ?_
      refine wl_v rfl rfl rfl (v_assign rfl) ?_
      refine wl_nil ?_
      refine wc_ret ?_
      first
        | exact ⟨_, res1 rfl rfl, congrArg Value.bool (dec_t ⟨c0p, fun j hj => ha j (by omega)⟩).symm, H⟩
        | exact ⟨_, res1 rfl rfl, congrArg Value.bool (dec_f fun hh => c0p hh.1).symm, H.pm (by repeat constructor)⟩
        | exact ⟨_, res1 rfl rfl, congrArg Value.bool (dec_f fun hh => by have h5 := hh.2 i (by omega); unfold goOk at h5; omega).symm, H.pm (by repeat constructor)⟩

set_option maxRecDepth 100000 in
theorem check_calls {A B : Option Addr} {ca cb : Nat} {t : Tb} {k r p : Int} {w : World} (hx : t.rd w A B) (hk : t.ok) :
    Calls Try.prog 12 #[t.val A B ca cb, .int .i64 k, .int .i64 r, .int .i64 p] w fun e w' => ∃ v, e = .returned v ∧ v = .int .i64 (checkF t k r p) ∧ Holds w [] w' := by
  have q1 := hk.m'
  have q2 := hk.g'
  refine calls_of Try.func12 rfl Try.ntmps12 rfl ?_
  have H := Holds.start w
  refine wc_seq ?_
  refine wc_region ?_
  refine wl_box (cs := [_, _]) H rfl rfl rfl ?_
  intro b4 w1 hb4 H2
  refine wl_v rfl rfl rfl (v_assign rfl) ?_
  refine wl_nil ?_
  refine wc_seq ?_
  refine wc_seq ?_
  refine wc_region ?_
  refine wl_v rfl rfl rfl (v_move rfl) ?_
  refine wl_v rfl rfl rfl (v_lss rfl rfl) ?_
  refine wl_v rfl rfl rfl (v_move rfl) ?_
  refine wl_guard rfl rfl rfl (fun g15 => ?_) (fun g15 => ?_)
  · have g15p := of_decide_eq_false g15
    refine wl_v rfl rfl rfl (v_move rfl) ?_
    refine wl_on' rfl rfl g15 ?_
    refine wl_v rfl rfl rfl (v_lss rfl rfl) ?_
    refine wl_v rfl rfl rfl (v_pick_f rfl g15 rfl) ?_
    refine wl_v rfl rfl rfl (v_move rfl) ?_
    refine wl_guard rfl rfl rfl (fun g19 => ?_) (fun g19 => ?_)
    · have g19p := of_decide_eq_false g19
      refine wl_v rfl rfl rfl (v_move rfl) ?_
      refine wl_on' rfl rfl g19 ?_
      refine wl_v rfl rfl rfl (v_lss rfl rfl) ?_
      refine wl_v rfl rfl rfl (v_pick_f rfl g19 rfl) ?_
      refine wl_nil ?_
      refine wc_cond rfl (fun c0 => ?_) (fun c0 => ?_)
      · have c0p := of_decide_eq_true c0
        refine wc_seq ?_
        refine wc_region ?_
        refine wl_v rfl rfl rfl (v_assign rfl) ?_
        refine wl_nil ?_
        refine wc_ret ?_
        first
          | exact ⟨_, res1 rfl rfl, congrArg (Value.int .i64) (checkF_arg (by omega)).symm, H2.pm (by repeat constructor)⟩
          | exact ⟨_, res1 rfl rfl, congrArg (Value.int .i64) (checkF_ok (by omega) ⟨by omega, by omega, by omega, fun s hs => ha s (by omega)⟩).symm, H2.pm (by repeat constructor)⟩
          | exact ⟨_, res1 rfl rfl, congrArg (Value.int .i64) (checkF_bad (by omega) fun hg => by obtain ⟨p1, p2, p3, p4⟩ := hg; omega).symm, H2.pm (by repeat constructor)⟩
          | exact ⟨_, res1 rfl rfl, congrArg (Value.int .i64) (checkF_bad (by omega) fun hg => by obtain ⟨p5, p6, p7, p8⟩ := hg.2.2.2 i (by omega); exact of_ndec c4p ⟨p5, p7⟩).symm, H2.pm (by repeat constructor)⟩
          | exact ⟨_, res1 rfl rfl, congrArg (Value.int .i64) (checkF_bad (by omega) fun hg => by obtain ⟨p5, p6, p7, p8⟩ := hg.2.2.2 i (by omega); exact of_ndec c4p ⟨p6, p8⟩).symm, H2.pm (by repeat constructor)⟩
      · have c0p := of_decide_eq_false c0
        refine wc_skip ?_
        refine wc_seq ?_
        refine wc_seq ?_
        refine wc_region ?_
        refine wl_v rfl rfl rfl (v_fb (o2 := 0) fa25_0 rfl rfl) ?_
        refine wl_v rfl rfl rfl (v_load one22 rfl (H2.at (by repeat constructor) rfl)) ?_
        refine wl_v rfl rfl rfl (v_len Try.underlying22 rfl) ?_
        refine wl_v rfl rfl rfl (v_lss rfl rfl) ?_
        refine wl_v rfl rfl rfl (v_move rfl) ?_
        refine wl_guard rfl rfl rfl (fun g27 => ?_) (fun g27 => ?_)
        · have g27p := of_decide_eq_false g27
          refine wl_v rfl rfl rfl (v_fb (o2 := 0) fa25_0 rfl rfl) ?_
          refine wl_on' rfl rfl g27 ?_
          refine wl_v rfl rfl rfl (v_load one22 rfl (H2.at (by repeat constructor) rfl)) ?_
          refine wl_on' rfl rfl g27 ?_
          refine wl_v rfl rfl rfl (v_len Try.underlying22 rfl) ?_
          refine wl_on' rfl rfl g27 ?_
          refine wl_v rfl rfl rfl (v_gtr rfl rfl) ?_
          refine wl_v rfl rfl rfl (v_pick_f rfl g27 rfl) ?_
          refine wl_v rfl rfl rfl (v_move rfl) ?_
          refine wl_guard rfl rfl rfl (fun g33 => ?_) (fun g33 => ?_)
          · have g33p := of_decide_eq_false g33
            refine wl_v rfl rfl rfl (v_fb (o2 := 1) fa25_1 rfl rfl) ?_
            refine wl_on' rfl rfl g33 ?_
            refine wl_v rfl rfl rfl (v_load one23 rfl (H2.at (by repeat constructor) rfl)) ?_
            refine wl_on' rfl rfl g33 ?_
            refine wl_v rfl rfl rfl (v_len Try.underlying23 rfl) ?_
            refine wl_on' rfl rfl g33 ?_
            refine wl_v rfl rfl rfl (v_fb (o2 := 0) fa25_0 rfl rfl) ?_
            refine wl_on' rfl rfl g33 ?_
            refine wl_v rfl rfl rfl (v_load one22 rfl (H2.at (by repeat constructor) rfl)) ?_
            refine wl_on' rfl rfl g33 ?_
            refine wl_v rfl rfl rfl (v_len Try.underlying22 rfl) ?_
            refine wl_on' rfl rfl g33 ?_
            refine wl_v rfl rfl rfl (v_neq rfl rfl) ?_
            refine wl_v rfl rfl rfl (v_pick_f rfl g33 rfl) ?_
            refine wl_nil ?_
            refine wc_cond rfl (fun c1 => ?_) (fun c1 => ?_)
            · have c1p := of_nd_t c1
              refine wc_seq ?_
              refine wc_region ?_
              refine wl_v rfl rfl rfl (v_assign rfl) ?_
              refine wl_nil ?_
              refine wc_ret ?_
              first
                | exact ⟨_, res1 rfl rfl, congrArg (Value.int .i64) (checkF_arg (by omega)).symm, H2.pm (by repeat constructor)⟩
                | exact ⟨_, res1 rfl rfl, congrArg (Value.int .i64) (checkF_ok (by omega) ⟨by omega, by omega, by omega, fun s hs => ha s (by omega)⟩).symm, H2.pm (by repeat constructor)⟩
                | exact ⟨_, res1 rfl rfl, congrArg (Value.int .i64) (checkF_bad (by omega) fun hg => by obtain ⟨p1, p2, p3, p4⟩ := hg; omega).symm, H2.pm (by repeat constructor)⟩
                | exact ⟨_, res1 rfl rfl, congrArg (Value.int .i64) (checkF_bad (by omega) fun hg => by obtain ⟨p5, p6, p7, p8⟩ := hg.2.2.2 i (by omega); exact of_ndec c4p ⟨p5, p7⟩).symm, H2.pm (by repeat constructor)⟩
                | exact ⟨_, res1 rfl rfl, congrArg (Value.int .i64) (checkF_bad (by omega) fun hg => by obtain ⟨p5, p6, p7, p8⟩ := hg.2.2.2 i (by omega); exact of_ndec c4p ⟨p6, p8⟩).symm, H2.pm (by repeat constructor)⟩
            · have c1p := of_nd_f c1
              refine wc_skip ?_
              refine wc_seq ?_
              refine wc_region ?_
              refine wl_v rfl rfl rfl (v_loadN agg25 rfl rfl (H2.ats (by repeat constructor))) ?_
              refine wl_v rfl rfl rfl (v_move rfl) ?_
              refine wl_v rfl rfl rfl (v_move rfl) ?_
              refine wl_v rfl rfl rfl (v_move rfl) ?_
              refine wl_v rfl rfl rfl (v_bld ba83 rfl (by repeat constructor)) ?_
              refine wl_box (cs := [_, _, _, _, _, _]) H2 rfl rfl rfl ?_
              intro b47 w3 hb47 H4
              refine wl_v rfl rfl rfl (v_assign rfl) ?_
              refine wl_nil ?_
              refine wc_seq ?_
              refine wc_region ?_
              refine wl_v rfl rfl rfl (v_move rfl) ?_
              refine wl_v rfl rfl rfl (v_move rfl) ?_
              refine wl_v rfl rfl rfl (v_fn rfl rfl) ?_
              refine wl_v rfl rfl rfl (v_move rfl) ?_
              refine wl_v rfl rfl rfl (v_fn rfl rfl) ?_
              refine wl_slit (v := .nilFunc) (z := [.nilFunc, .nilFunc]) (cs := [.func (.func 36) #[.pointer (some ⟨b47, 0, none⟩)] #[], .func (.func 37) #[.pointer (some ⟨b47, 0, none⟩)] #[]]) (sz := 1) H4 rfl Try.underlying81 sz84 zv84 (by decide) (by decide) (by kernel_rfl) rfl (by repeat constructor) ?_
              intro b53 w5 hb53 H5 hs5
              refine wl_v rfl rfl rfl (v_nil rfl) ?_
              refine wl_v rfl rfl rfl (v_fb (o2 := 5) fa83_4 rfl rfl) ?_
              refine wl_store (vs := [_]) H5 (by repeat constructor) sz81 rfl rfl rfl rfl rfl (by repeat constructor) ?_
              intro w6 H7 hw6
              refine wl_nil ?_
              refine wc_seq ?_
              refine wc_seq ?_
              refine wc_region ?_
              refine wl_v rfl rfl rfl (v_fb (o2 := 0) fa25_0 rfl rfl) ?_
              refine wl_v rfl rfl rfl (v_load one22 rfl (H7.at (by repeat constructor) rfl)) ?_
              refine wl_v rfl rfl rfl (v_len Try.underlying22 rfl) ?_
              refine wl_v rfl rfl rfl (v_move rfl) ?_
              refine wl_nil ?_
              refine wc_block ?_
              refine wc_loop (σ := Nat) (fun s => [(4, .pointer (some ⟨b4, 0, none⟩)), (9, .pointer (some ⟨b47, 0, none⟩)), (58, .int .i64 t.mv.length), (59, .int .i64 s)]) (fun s W => s ≤ t.mv.length ∧ (∀ s', s' < s → rowOk t k r p s') ∧ Holds w [Blk b53 84 [.func (.func 36) #[.pointer (some ⟨b47, 0, none⟩)] #[], .func (.func 37) #[.pointer (some ⟨b47, 0, none⟩)] #[]], Blk b47 83 [.slice A t.mv.length ca, .slice B t.go.length cb, .int .i64 k, .int .i64 r, .int .i64 p, .slice (some ⟨b53, 0, none⟩) 2 2], Blk b4 25 [.slice A t.mv.length ca, .slice B t.go.length cb]] W) (fun s => t.mv.length - s) 0 (sc rfl (sc rfl (sc rfl (sc rfl (sn _))))) ⟨Nat.zero_le _, upto_zero, H7.pm (by repeat constructor)⟩ ?_
              rintro i W0 ⟨hi, ha, H⟩
              refine wc_seq ?_
              refine wc_region ?_
              refine wl_v rfl rfl rfl (v_lss rfl rfl) ?_
              refine wl_nil ?_
              refine wc_seq ?_
              refine wc_cond rfl (fun c2 => ?_) (fun c2 => ?_)
              · have c2p := of_decide_eq_true c2
                refine wc_skip ?_
                refine wc_seq ?_
                refine wc_block ?_
                refine wc_seq ?_
                refine wc_region ?_
                refine wl_v rfl rfl rfl (v_move rfl) ?_
                refine wl_v rfl rfl rfl (v_assign rfl) ?_
                refine wl_nil ?_
                refine wc_seq ?_
                refine wc_region ?_
                refine wl_v rfl rfl rfl (v_move rfl) ?_
                refine wl_v rfl rfl rfl (v_nil rfl) ?_
                refine wl_v rfl rfl rfl (v_fb (o2 := 5) fa83_4 rfl rfl) ?_
                refine wl_v rfl rfl rfl (v_load one81 rfl (H.at (by repeat constructor) rfl)) ?_
                refine wl_v rfl rfl rfl (v_len Try.underlying81 rfl) ?_
                refine wl_v rfl rfl rfl (v_move rfl) ?_
                refine wl_nil ?_
                refine wc_block ?_
                refine wc_loop (σ := Nat) (fun s => [(4, .pointer (some ⟨b4, 0, none⟩)), (9, .pointer (some ⟨b47, 0, none⟩)), (10, .int .i64 i), (58, .int .i64 t.mv.length), (59, .int .i64 i), (65, .slice (some ⟨b53, 0, none⟩) 2 2), (66, .int .i64 2), (67, .int .i64 s)]) (fun s W => s ≤ 2 ∧ (1 ≤ s → ((t.mv.getD i []).length : Int) = k ∧ ∀ j, j < (t.mv.getD i []).length → mvOk ((t.mv.getD i []).getD j mv0) t.mv.length p) ∧ (2 ≤ s → ((t.go.getD i []).length : Int) = r ∧ ∀ j, j < (t.go.getD i []).length → goOk ((t.go.getD i []).getD j 0) t.mv.length) ∧ Holds w [Blk b53 84 [.func (.func 36) #[.pointer (some ⟨b47, 0, none⟩)] #[], .func (.func 37) #[.pointer (some ⟨b47, 0, none⟩)] #[]], Blk b47 83 [.slice A t.mv.length ca, .slice B t.go.length cb, .int .i64 k, .int .i64 r, .int .i64 p, .slice (some ⟨b53, 0, none⟩) 2 2], Blk b4 25 [.slice A t.mv.length ca, .slice B t.go.length cb]] W) (fun s => 2 - s) 0 (sc rfl (sc rfl (sc rfl (sc rfl (sc rfl (sc rfl (sc rfl (sc rfl (sn _))))))))) ⟨Nat.zero_le _, fun h => absurd h (by omega), fun h => absurd h (by omega), H⟩ ?_
                rintro q W1 ⟨hq, h1, h2, H⟩
                refine wc_seq ?_
                refine wc_region ?_
                refine wl_v rfl rfl rfl (v_lss rfl rfl) ?_
                refine wl_nil ?_
                refine wc_seq ?_
                refine wc_cond rfl (fun c3 => ?_) (fun c3 => ?_)
                · have c3p := of_decide_eq_true c3
                  have hs2 : q = 0 ∨ q = 1 := by omega
                  rcases hs2 with rfl | rfl
                  · refine wc_skip ?_
                    refine wc_seq ?_
                    refine wc_block ?_
                    refine wc_seq ?_
                    refine wc_region ?_
                    refine wl_v rfl rfl rfl (v_idx Try.underlying81 sz84 (fun _ => rfl) rfl rfl (by omega) (by omega)) ?_
                    refine wl_v rfl rfl rfl (v_load one84 rfl (H.ats (by repeat constructor) 0 _ rfl)) ?_
                    refine wl_v rfl rfl rfl (v_assign rfl) ?_
                    refine wl_nil ?_
                    refine wc_seq ?_
                    refine wc_region ?_
                    refine wl_v rfl rfl rfl (v_move rfl) ?_
                    refine wl_v rfl rfl rfl (v_move rfl) ?_
                    refine wl_callv (first := [.pointer (some ⟨b47, 0, none⟩)]) (captured := []) en36 rfl rfl rfl (cmoves_calls (hx.below H.old) hk (s0 := i) (by omega) (b := b47) (k := k) (r := r) (p := p) (fun j v hv => H.at (by repeat constructor) hv)) ?_
                    rintro _ w8 ⟨rfl, Hc⟩
                    have H9 := H.call Hc
                    refine wl_v rfl rfl rfl (v_not rfl) ?_
                    refine wl_nil ?_
                    refine wc_cond rfl (fun c4 => ?_) (fun c4 => ?_)
                    · have c4p := of_n_t c4
                      refine wc_seq ?_
                      refine wc_region ?_
                      refine wl_v rfl rfl rfl (v_assign rfl) ?_
                      refine wl_nil ?_
                      refine wc_ret ?_
                      first
                        | exact ⟨_, res1 rfl rfl, congrArg (Value.int .i64) (checkF_arg (by omega)).symm, H9.pm (by repeat constructor)⟩
                        | exact ⟨_, res1 rfl rfl, congrArg (Value.int .i64) (checkF_ok (by omega) ⟨by omega, by omega, by omega, fun s hs => ha s (by omega)⟩).symm, H9.pm (by repeat constructor)⟩
                        | exact ⟨_, res1 rfl rfl, congrArg (Value.int .i64) (checkF_bad (by omega) fun hg => by obtain ⟨p1, p2, p3, p4⟩ := hg; omega).symm, H9.pm (by repeat constructor)⟩
                        | exact ⟨_, res1 rfl rfl, congrArg (Value.int .i64) (checkF_bad (by omega) fun hg => by obtain ⟨p5, p6, p7, p8⟩ := hg.2.2.2 i (by omega); exact of_ndec c4p ⟨p5, p7⟩).symm, H9.pm (by repeat constructor)⟩
                        | exact ⟨_, res1 rfl rfl, congrArg (Value.int .i64) (checkF_bad (by omega) fun hg => by obtain ⟨p5, p6, p7, p8⟩ := hg.2.2.2 i (by omega); exact of_ndec c4p ⟨p6, p8⟩).symm, H9.pm (by repeat constructor)⟩
                    · have c4p := of_n_f c4
                      refine wc_skip ?_
                      refine wc_region ?_
                      refine wl_v rfl rfl rfl (v_addi rfl rfl (by omega)) ?_
                      refine wl_v rfl rfl rfl (v_move rfl) ?_
                      refine wl_nil ?_
                      exact ⟨1, (sc rfl (sc rfl (sc rfl (sc rfl (sc rfl (sc rfl (sc rfl (sc rfl (sn _))))))))), ⟨by omega, fun _ => of_dec c4p, fun h => absurd h (by omega), H9⟩, by omega⟩
                  · refine wc_skip ?_
                    refine wc_seq ?_
                    refine wc_block ?_
                    refine wc_seq ?_
                    refine wc_region ?_
                    refine wl_v rfl rfl rfl (v_idx Try.underlying81 sz84 (fun _ => rfl) rfl rfl (by omega) (by omega)) ?_
                    refine wl_v rfl rfl rfl (v_load one84 rfl (H.ats (by repeat constructor) 1 _ rfl)) ?_
                    refine wl_v rfl rfl rfl (v_assign rfl) ?_
                    refine wl_nil ?_
                    refine wc_seq ?_
                    refine wc_region ?_
                    refine wl_v rfl rfl rfl (v_move rfl) ?_
                    refine wl_v rfl rfl rfl (v_move rfl) ?_
                    refine wl_callv (first := [.pointer (some ⟨b47, 0, none⟩)]) (captured := []) en37 rfl rfl rfl (cgotos_calls (hx.below H.old) hk (s0 := i) (by omega) (b := b47) (k := k) (r := r) (p := p) (fun j v hv => H.at (by repeat constructor) hv)) ?_
                    rintro _ w10 ⟨rfl, Hc⟩
                    have H11 := H.call Hc
                    refine wl_v rfl rfl rfl (v_not rfl) ?_
                    refine wl_nil ?_
                    refine wc_cond rfl (fun c4 => ?_) (fun c4 => ?_)
                    · have c4p := of_n_t c4
                      refine wc_seq ?_
                      refine wc_region ?_
                      refine wl_v rfl rfl rfl (v_assign rfl) ?_
                      refine wl_nil ?_
                      refine wc_ret ?_
                      first
                        | exact ⟨_, res1 rfl rfl, congrArg (Value.int .i64) (checkF_arg (by omega)).symm, H11.pm (by repeat constructor)⟩
                        | exact ⟨_, res1 rfl rfl, congrArg (Value.int .i64) (checkF_ok (by omega) ⟨by omega, by omega, by omega, fun s hs => ha s (by omega)⟩).symm, H11.pm (by repeat constructor)⟩
                        | exact ⟨_, res1 rfl rfl, congrArg (Value.int .i64) (checkF_bad (by omega) fun hg => by obtain ⟨p1, p2, p3, p4⟩ := hg; omega).symm, H11.pm (by repeat constructor)⟩
                        | exact ⟨_, res1 rfl rfl, congrArg (Value.int .i64) (checkF_bad (by omega) fun hg => by obtain ⟨p5, p6, p7, p8⟩ := hg.2.2.2 i (by omega); exact of_ndec c4p ⟨p5, p7⟩).symm, H11.pm (by repeat constructor)⟩
                        | exact ⟨_, res1 rfl rfl, congrArg (Value.int .i64) (checkF_bad (by omega) fun hg => by obtain ⟨p5, p6, p7, p8⟩ := hg.2.2.2 i (by omega); exact of_ndec c4p ⟨p6, p8⟩).symm, H11.pm (by repeat constructor)⟩
                    · have c4p := of_n_f c4
                      refine wc_skip ?_
                      refine wc_region ?_
                      refine wl_v rfl rfl rfl (v_addi rfl rfl (by omega)) ?_
                      refine wl_v rfl rfl rfl (v_move rfl) ?_
                      refine wl_nil ?_
                      exact ⟨2, (sc rfl (sc rfl (sc rfl (sc rfl (sc rfl (sc rfl (sc rfl (sc rfl (sn _))))))))), ⟨by omega, fun _ => h1 (by omega), fun _ => of_dec c4p, H11⟩, by omega⟩
                · have c3p := of_decide_eq_false c3
                  refine wc_exit ?_
                  refine wc_region ?_
                  refine wl_v rfl rfl rfl (v_addi rfl rfl (by omega)) ?_
                  refine wl_v rfl rfl rfl (v_move rfl) ?_
                  refine wl_nil ?_
                  exact ⟨i + 1, (sc rfl (sc rfl (sc rfl (sc rfl (sn _))))), ⟨by omega, upto_succ ha ⟨(h1 (by omega)).1, (h2 (by omega)).1, (h1 (by omega)).2, (h2 (by omega)).2⟩, H⟩, by omega⟩
              · have c2p := of_decide_eq_false c2
                refine wc_exit ?_
                refine wc_seq ?_
                refine wc_region ?_
                refine wl_v rfl rfl rfl (v_assign rfl) ?_
                refine wl_nil ?_
                refine wc_ret ?_
                first
                  | exact ⟨_, res1 rfl rfl, congrArg (Value.int .i64) (checkF_arg (by omega)).symm, H.pm (by repeat constructor)⟩
                  | exact ⟨_, res1 rfl rfl, congrArg (Value.int .i64) (checkF_ok (by omega) ⟨by omega, by omega, by omega, fun s hs => ha s (by omega)⟩).symm, H.pm (by repeat constructor)⟩
                  | exact ⟨_, res1 rfl rfl, congrArg (Value.int .i64) (checkF_bad (by omega) fun hg => by obtain ⟨p1, p2, p3, p4⟩ := hg; omega).symm, H.pm (by repeat constructor)⟩
                  | exact ⟨_, res1 rfl rfl, congrArg (Value.int .i64) (checkF_bad (by omega) fun hg => by obtain ⟨p5, p6, p7, p8⟩ := hg.2.2.2 i (by omega); exact of_ndec c4p ⟨p5, p7⟩).symm, H.pm (by repeat constructor)⟩
                  | exact ⟨_, res1 rfl rfl, congrArg (Value.int .i64) (checkF_bad (by omega) fun hg => by obtain ⟨p5, p6, p7, p8⟩ := hg.2.2.2 i (by omega); exact of_ndec c4p ⟨p6, p8⟩).symm, H.pm (by repeat constructor)⟩
          · have g33p := of_decide_eq_true g33
            refine wl_off rfl rfl g33 rfl ?_
            refine wl_off rfl rfl g33 rfl ?_
            refine wl_off rfl rfl g33 rfl ?_
            refine wl_off rfl rfl g33 rfl ?_
            refine wl_off rfl rfl g33 rfl ?_
            refine wl_off rfl rfl g33 rfl ?_
            refine wl_v rfl rfl rfl (v_pick_t rfl g33 rfl) ?_
            refine wl_nil ?_
            refine wc_cond_t rfl ?_
            refine wc_seq ?_
            refine wc_region ?_
            refine wl_v rfl rfl rfl (v_assign rfl) ?_
            refine wl_nil ?_
            refine wc_ret ?_
            first
              | exact ⟨_, res1 rfl rfl, congrArg (Value.int .i64) (checkF_arg (by omega)).symm, H2.pm (by repeat constructor)⟩
              | exact ⟨_, res1 rfl rfl, congrArg (Value.int .i64) (checkF_ok (by omega) ⟨by omega, by omega, by omega, fun s hs => ha s (by omega)⟩).symm, H2.pm (by repeat constructor)⟩
              | exact ⟨_, res1 rfl rfl, congrArg (Value.int .i64) (checkF_bad (by omega) fun hg => by obtain ⟨p1, p2, p3, p4⟩ := hg; omega).symm, H2.pm (by repeat constructor)⟩
              | exact ⟨_, res1 rfl rfl, congrArg (Value.int .i64) (checkF_bad (by omega) fun hg => by obtain ⟨p5, p6, p7, p8⟩ := hg.2.2.2 i (by omega); exact of_ndec c4p ⟨p5, p7⟩).symm, H2.pm (by repeat constructor)⟩
              | exact ⟨_, res1 rfl rfl, congrArg (Value.int .i64) (checkF_bad (by omega) fun hg => by obtain ⟨p5, p6, p7, p8⟩ := hg.2.2.2 i (by omega); exact of_ndec c4p ⟨p6, p8⟩).symm, H2.pm (by repeat constructor)⟩
        · have g27p := of_decide_eq_true g27
          refine wl_off rfl rfl g27 rfl ?_
          refine wl_off rfl rfl g27 rfl ?_
          refine wl_off rfl rfl g27 rfl ?_
          refine wl_v rfl rfl rfl (v_pick_t rfl g27 rfl) ?_
          refine wl_v rfl rfl rfl (v_move rfl) ?_
          refine wl_off rfl rfl rfl rfl ?_
          refine wl_off rfl rfl rfl rfl ?_
          refine wl_off rfl rfl rfl rfl ?_
          refine wl_off rfl rfl rfl rfl ?_
          refine wl_off rfl rfl rfl rfl ?_
          refine wl_off rfl rfl rfl rfl ?_
          refine wl_off rfl rfl rfl rfl ?_
          refine wl_v rfl rfl rfl (v_pick_t rfl rfl rfl) ?_
          refine wl_nil ?_
          refine wc_cond_t rfl ?_
          refine wc_seq ?_
          refine wc_region ?_
          refine wl_v rfl rfl rfl (v_assign rfl) ?_
          refine wl_nil ?_
          refine wc_ret ?_
          first
            | exact ⟨_, res1 rfl rfl, congrArg (Value.int .i64) (checkF_arg (by omega)).symm, H2.pm (by repeat constructor)⟩
            | exact ⟨_, res1 rfl rfl, congrArg (Value.int .i64) (checkF_ok (by omega) ⟨by omega, by omega, by omega, fun s hs => ha s (by omega)⟩).symm, H2.pm (by repeat constructor)⟩
            | exact ⟨_, res1 rfl rfl, congrArg (Value.int .i64) (checkF_bad (by omega) fun hg => by obtain ⟨p1, p2, p3, p4⟩ := hg; omega).symm, H2.pm (by repeat constructor)⟩
            | exact ⟨_, res1 rfl rfl, congrArg (Value.int .i64) (checkF_bad (by omega) fun hg => by obtain ⟨p5, p6, p7, p8⟩ := hg.2.2.2 i (by omega); exact of_ndec c4p ⟨p5, p7⟩).symm, H2.pm (by repeat constructor)⟩
            | exact ⟨_, res1 rfl rfl, congrArg (Value.int .i64) (checkF_bad (by omega) fun hg => by obtain ⟨p5, p6, p7, p8⟩ := hg.2.2.2 i (by omega); exact of_ndec c4p ⟨p6, p8⟩).symm, H2.pm (by repeat constructor)⟩
    · have g19p := of_decide_eq_true g19
      refine wl_off rfl rfl g19 rfl ?_
      refine wl_v rfl rfl rfl (v_pick_t rfl g19 rfl) ?_
      refine wl_nil ?_
      refine wc_cond_t rfl ?_
      refine wc_seq ?_
      refine wc_region ?_
      refine wl_v rfl rfl rfl (v_assign rfl) ?_
      refine wl_nil ?_
      refine wc_ret ?_
      first
        | exact ⟨_, res1 rfl rfl, congrArg (Value.int .i64) (checkF_arg (by omega)).symm, H2.pm (by repeat constructor)⟩
        | exact ⟨_, res1 rfl rfl, congrArg (Value.int .i64) (checkF_ok (by omega) ⟨by omega, by omega, by omega, fun s hs => ha s (by omega)⟩).symm, H2.pm (by repeat constructor)⟩
        | exact ⟨_, res1 rfl rfl, congrArg (Value.int .i64) (checkF_bad (by omega) fun hg => by obtain ⟨p1, p2, p3, p4⟩ := hg; omega).symm, H2.pm (by repeat constructor)⟩
        | exact ⟨_, res1 rfl rfl, congrArg (Value.int .i64) (checkF_bad (by omega) fun hg => by obtain ⟨p5, p6, p7, p8⟩ := hg.2.2.2 i (by omega); exact of_ndec c4p ⟨p5, p7⟩).symm, H2.pm (by repeat constructor)⟩
        | exact ⟨_, res1 rfl rfl, congrArg (Value.int .i64) (checkF_bad (by omega) fun hg => by obtain ⟨p5, p6, p7, p8⟩ := hg.2.2.2 i (by omega); exact of_ndec c4p ⟨p6, p8⟩).symm, H2.pm (by repeat constructor)⟩
  · have g15p := of_decide_eq_true g15
    refine wl_off rfl rfl g15 rfl ?_
    refine wl_v rfl rfl rfl (v_pick_t rfl g15 rfl) ?_
    refine wl_v rfl rfl rfl (v_move rfl) ?_
    refine wl_off rfl rfl rfl rfl ?_
    refine wl_off rfl rfl rfl rfl ?_
    refine wl_v rfl rfl rfl (v_pick_t rfl rfl rfl) ?_
    refine wl_nil ?_
    refine wc_cond_t rfl ?_
    refine wc_seq ?_
    refine wc_region ?_
    refine wl_v rfl rfl rfl (v_assign rfl) ?_
    refine wl_nil ?_
    refine wc_ret ?_
    first
      | exact ⟨_, res1 rfl rfl, congrArg (Value.int .i64) (checkF_arg (by omega)).symm, H2.pm (by repeat constructor)⟩
      | exact ⟨_, res1 rfl rfl, congrArg (Value.int .i64) (checkF_ok (by omega) ⟨by omega, by omega, by omega, fun s hs => ha s (by omega)⟩).symm, H2.pm (by repeat constructor)⟩
      | exact ⟨_, res1 rfl rfl, congrArg (Value.int .i64) (checkF_bad (by omega) fun hg => by obtain ⟨p1, p2, p3, p4⟩ := hg; omega).symm, H2.pm (by repeat constructor)⟩
      | exact ⟨_, res1 rfl rfl, congrArg (Value.int .i64) (checkF_bad (by omega) fun hg => by obtain ⟨p5, p6, p7, p8⟩ := hg.2.2.2 i (by omega); exact of_ndec c4p ⟨p5, p7⟩).symm, H2.pm (by repeat constructor)⟩
      | exact ⟨_, res1 rfl rfl, congrArg (Value.int .i64) (checkF_bad (by omega) fun hg => by obtain ⟨p5, p6, p7, p8⟩ := hg.2.2.2 i (by omega); exact of_ndec c4p ⟨p6, p8⟩).symm, H2.pm (by repeat constructor)⟩
end Go.Proofs.Ytkpehkadammppaa.Chk
