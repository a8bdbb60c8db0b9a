/- Tables written as bytes. -/
import Derived.Test.YtkpehkadammppaaProg
import Derived.Test.YtkpehkadammppaaByts
import Derived.Test.YtkpehkadammppaaShortW
import Derived.Test.YtkpehkadammppaaTabB
import Derived.Test.YtkpehkadammppaaOrd
set_option linter.unusedVariables false
set_option linter.unusedSimpArgs false
namespace Go.Proofs.Ytkpehkadammppaa.BytesW
open Go Go.RowKit Go.Proofs.YtkpehkadammppaaFx Go.Proofs.Ytkpehkadammppaa.ShortW Go.Proofs.Ytkpehkadammppaa.TabB
theorem agg25 : Agg Try.prog 25 2 := agg_of Try.underlying25 (by kernel_rfl)
theorem agg48 : Agg Try.prog 48 2 := agg_of Try.underlying48 (by kernel_rfl)
theorem en32 : Enters Try.prog 32 := enters Try.func32 (by kernel_rfl) rfl
theorem en34 : Enters Try.prog 34 := enters Try.func34 (by kernel_rfl) rfl
theorem en52 : Enters Try.prog 52 := enters Try.func52 (by kernel_rfl) rfl
theorem en53 : Enters Try.prog 53 := enters Try.func53 (by kernel_rfl) rfl
theorem fa25_0 : FieldAt Try.prog 25 0 0 := field_at (sz := 0) Try.underlying25 rfl (by kernel_rfl) rfl
theorem fa25_1 : FieldAt Try.prog 25 1 1 := field_at (sz := 0) Try.underlying25 rfl (by kernel_rfl) rfl
theorem fa48_0 : FieldAt Try.prog 48 0 0 := field_at (sz := 0) Try.underlying48 rfl (by kernel_rfl) rfl
theorem fa48_1 : FieldAt Try.prog 48 1 1 := field_at (sz := 0) Try.underlying48 rfl (by kernel_rfl) rfl
theorem info5 : (Try.prog.info? 5).map (fun i => (i.zero, i.size, i.bytes)) = some (some (.int .u8 0), 1, 1) := by kernel_rfl
theorem mixed : Try.prog.follows .mixedOrders = true := by kernel_rfl
theorem one22 : One Try.prog 22 := one_of Try.underlying22 rfl (by kernel_rfl)
theorem one23 : One Try.prog 23 := one_of Try.underlying23 rfl (by kernel_rfl)
theorem one3 : One Try.prog 3 := one_of Try.underlying3 rfl (by kernel_rfl)
theorem one38 : One Try.prog 38 := one_of Try.underlying38 rfl (by kernel_rfl)
theorem one39 : One Try.prog 39 := one_of Try.underlying39 rfl (by kernel_rfl)
theorem sz3 : ∀ W, (sizeOf 3).run Try.prog W = .ok 1 W := size_of (by kernel_rfl)
theorem sz38 : ∀ W, (sizeOf 38).run Try.prog W = .ok 1 W := size_of (by kernel_rfl)
theorem sz39 : ∀ W, (sizeOf 39).run Try.prog W = .ok 1 W := size_of (by kernel_rfl)
theorem sz48 : ∀ W, (sizeOf 48).run Try.prog W = .ok 2 W := size_of (by kernel_rfl)
theorem zv48 : ∀ W, (zeroValue 48).run Try.prog W = .ok (.agg #[.int .i64 0, .int .i64 0]) W := zero_of (by kernel_rfl)

set_option maxHeartbeats 1600000 in
set_option maxRecDepth 100000 in
theorem bytes_calls {A B : Option Addr} {ca cb : Nat} {t : Tb} {w : World} (hx : t.rd w A B) (hs : BSm t) :
    Calls Try.prog 27 #[t.val A B ca cb] w fun e w' => ∃ v, e = .returned v ∧ ∃ A' c, v = .tuple #[.slice A' (bytesA t).length c, .int .i64 (bytesE t)] ∧ Holds w [Row (fInt .u8) 5 (.slice A' (bytesA t).length c) (bytesA t)] w' := by
  have hM := hx.m
  have hG := hx.g
  have q1 := hs.ok.m'
  have q2 := hs.ok.g'
  have q3 := hs.m
  refine calls_of Try.func27 rfl Try.ntmps27 rfl ?_
  have H := Holds.start w
  refine wc_seq ?_
  refine wc_region ?_
  refine wl_box (cs := [_, _]) H rfl rfl rfl ?_
  intro b1 w1 hb1 H2
  refine wl_v rfl rfl rfl (v_assign rfl) ?_
  refine wl_v rfl rfl rfl (v_assign rfl) ?_
  refine wl_nil ?_
  refine wc_seq ?_
  refine wc_seq ?_
  refine wc_region ?_
  refine wl_v rfl rfl rfl (v_loadN agg25 rfl rfl (H2.ats (by repeat constructor))) ?_
  refine wl_call en32 rfl rfl (even_calls (hx.below H2.old) hs.ok) ?_
  rintro _ w3 ⟨rfl, Hc⟩
  have H4 := H2.call Hc
  refine wl_v rfl rfl rfl (v_not rfl) ?_
  refine wl_nil ?_
  refine wc_cond rfl (fun c0 => ?_) (fun c0 => ?_)
  · have c0p := of_n_t c0
    refine wc_seq ?_
    refine wc_region ?_
    refine wl_v rfl rfl rfl (v_assign rfl) ?_
    refine wl_v rfl rfl rfl (v_assign rfl) ?_
    refine wl_nil ?_
    refine wc_ret ?_
    first
      | exact ⟨_, res2 rfl rfl rfl, none, 0, by rw [(by_f (fun h => of_ndec c0p h.1)).1, (by_f (fun h => of_ndec c0p h.1)).2]; rfl, by rw [(by_f (fun h => of_ndec c0p h.1)).1]; exact (H4.nilrow 5 1).pm (.cons (.here _ _) (.nil _))⟩
      | (have hbad : ¬ ByOk t := fun h => by
           have h1 := (h.2 i (by omega)).1 _ (getD_mem (z := mv0) (show j < (t.mv.getD i []).length by omega))
           unfold okMv at h1
           omega
         exact ⟨_, res2 rfl rfl rfl, none, 0, by rw [(by_f hbad).1, (by_f hbad).2]; rfl, by rw [(by_f hbad).1]; exact (H4.nilrow 5 1).pm (.cons (.here _ _) (.nil _))⟩)
      | (have hbad : ¬ ByOk t := fun h => by
           have h1 := (h.2 i (by omega)).2 _ (getD_mem (z := 0) (show j < (t.go.getD i []).length by omega))
           unfold okGo at h1
           omega
         exact ⟨_, res2 rfl rfl rfl, none, 0, by rw [(by_f hbad).1, (by_f hbad).2]; rfl, by rw [(by_f hbad).1]; exact (H4.nilrow 5 1).pm (.cons (.here _ _) (.nil _))⟩)
      | (have hgood : ByOk t := ⟨⟨r1, r2, r3, r4⟩, hok⟩
         exact ⟨_, res2 rfl rfl rfl, A4, cz4, by rw [(by_t hgood).1, (by_t hgood).2]; rfl, by rw [(by_t hgood).1]; exact H4.pm (by repeat constructor)⟩)
  · have c0p := of_n_f c0
    have hR := of_dec c0p
    obtain ⟨r1, r2, r3, r4⟩ := hR
    have r5 := hs.ml (i := 0) r1
    have r6 := hs.gl (i := 0) (by omega)
    have hv1 := vint5 (n := t.mv.length) (by omega)
    have hv2 := vint5 (n := (t.mv.getD 0 []).length) (by omega)
    have hv3 := vint5 (n := (t.go.getD 0 []).length) (by omega)
    refine wc_skip ?_
    refine wc_seq ?_
    refine wc_region ?_
    refine wl_v rfl rfl rfl (v_fb (o2 := 0) fa25_0 rfl rfl) ?_
    refine wl_v rfl rfl rfl (v_load one22 rfl (H4.at (by repeat constructor) rfl)) ?_
    refine wl_v rfl rfl rfl (v_len Try.underlying22 rfl) ?_
    refine wl_call en52 rfl rfl (by have hq := short_calls (n := t.mv.length) (xs := []) (LL := fun v x => [Row (fInt .u8) 5 v x, Blk b1 25 [.slice A t.mv.length ca, .slice B t.go.length cb]]) (fun v x v' y => .here _ _ _) (H4.nilrow 5 1) (by simp only [List.length_append, List.length_nil]; omega) (by omega); exact hq) ?_
    rintro _ w5 ⟨A17, c17, rfl, Hc⟩
    have H6 := Hc
    refine wl_v rfl rfl rfl (v_assign rfl) ?_
    refine wl_nil ?_
    refine wc_seq ?_
    refine wc_region ?_
    refine wl_v rfl rfl rfl (v_move rfl) ?_
    refine wl_v rfl rfl rfl (v_fb (o2 := 0) fa25_0 rfl rfl) ?_
    refine wl_v rfl rfl rfl (v_load one22 rfl (H6.at (by repeat constructor) rfl)) ?_
    refine wl_v rfl rfl rfl (v_idx Try.underlying22 sz38 hM.ad rfl rfl (by omega) (by omega)) ?_
    obtain ⟨B22, cp22, hc22, hl22, hr22⟩ := hM.atSlN (i := 0) (by omega)
    refine wl_v rfl rfl rfl (v_load one38 rfl (H6.cell (hc22))) ?_
    refine wl_v rfl rfl rfl (v_len Try.underlying38 rfl) ?_
    refine wl_call en52 rfl rfl (by have hq := short_calls (n := (t.mv.getD 0 []).length) (xs := ([] ++ vint t.mv.length)) (LL := fun v x => [Row (fInt .u8) 5 v x, Blk b1 25 [.slice A t.mv.length ca, .slice B t.go.length cb]]) (fun v x v' y => .here _ _ _) H6 (by simp only [List.length_append, List.length_nil]; omega) (by omega); exact hq) ?_
    rintro _ w7 ⟨A24, c24, rfl, Hc⟩
    have H8 := Hc
    refine wl_v rfl rfl rfl (v_assign rfl) ?_
    refine wl_nil ?_
    refine wc_seq ?_
    refine wc_region ?_
    refine wl_v rfl rfl rfl (v_move rfl) ?_
    refine wl_v rfl rfl rfl (v_fb (o2 := 1) fa25_1 rfl rfl) ?_
    refine wl_v rfl rfl rfl (v_load one23 rfl (H8.at (by repeat constructor) rfl)) ?_
    refine wl_v rfl rfl rfl (v_idx Try.underlying23 sz39 hG.ad rfl rfl (by omega) (by omega)) ?_
    obtain ⟨B29, cp29, hc29, hl29, hr29⟩ := hG.atSlN (i := 0) (by omega)
    refine wl_v rfl rfl rfl (v_load one39 rfl (H8.cell (hc29))) ?_
    refine wl_v rfl rfl rfl (v_len Try.underlying39 rfl) ?_
    refine wl_call en52 rfl rfl (by have hq := short_calls (n := (t.go.getD 0 []).length) (xs := ([] ++ vint t.mv.length ++ vint (t.mv.getD 0 []).length)) (LL := fun v x => [Row (fInt .u8) 5 v x, Blk b1 25 [.slice A t.mv.length ca, .slice B t.go.length cb]]) (fun v x v' y => .here _ _ _) H8 (by simp only [List.length_append, List.length_nil]; omega) (by omega); exact hq) ?_
    rintro _ w9 ⟨A31, c31, rfl, Hc⟩
    have H10 := Hc
    refine wl_v rfl rfl rfl (v_assign rfl) ?_
    refine wl_nil ?_
    refine wc_seq ?_
    refine wc_seq ?_
    refine wc_region ?_
    refine wl_v rfl rfl rfl (v_fb (o2 := 0) fa25_0 rfl rfl) ?_
    refine wl_v rfl rfl rfl (v_load one22 rfl (H10.at (by repeat constructor) rfl)) ?_
    refine wl_v rfl rfl rfl (v_len Try.underlying22 rfl) ?_
    refine wl_v rfl rfl rfl (v_move rfl) ?_
    refine wl_nil ?_
    refine wc_block ?_
    have hO0 : (headB t ++ rowsB t 0) = ([] ++ vint t.mv.length ++ vint (t.mv.getD 0 []).length ++ vint (t.go.getD 0 []).length) := by simp [headB, rowsB]
    refine wc_loop (σ := Nat × Option Addr × Nat) (fun s => [(1, .pointer (some ⟨b1, 0, none⟩)), (4, .slice s.2.1 (headB t ++ rowsB t s.1).length s.2.2), (33, .slice A t.mv.length ca), (34, .int .i64 t.mv.length), (35, .int .i64 s.1)]) (fun s W => (s.1 ≤ t.mv.length ∧ ∀ q, q < s.1 → RowOk2 t q) ∧ Holds w [Row (fInt .u8) 5 (.slice s.2.1 (headB t ++ rowsB t s.1).length s.2.2) (headB t ++ rowsB t s.1), Blk b1 25 [.slice A t.mv.length ca, .slice B t.go.length cb]] W) (fun s => t.mv.length - s.1) (0, A31, c31) (by dsimp only; rw [hO0]; exact (sc rfl (sc rfl (sc rfl (sc rfl (sc rfl (sn _))))))) ⟨⟨Nat.zero_le _, upto_zero⟩, by dsimp only; rw [hO0]; exact H10.pm (by repeat constructor)⟩ ?_
    rintro ⟨i, A4, cz4⟩ W0 ⟨⟨hi, hok⟩, H⟩
    dsimp only at hi hok H ⊢
    refine wc_seq ?_
    refine wc_region ?_
    refine wl_v rfl rfl rfl (v_lss rfl rfl) ?_
    refine wl_nil ?_
    refine wc_seq ?_
    refine wc_cond rfl (fun c1 => ?_) (fun c1 => ?_)
    · have c1p := of_decide_eq_true c1
      have hrl := hs.ml (i := i) (by omega)
      have hgl := hs.gl (i := i) (by omega)
      have ho0 := out0 hs r3 r1 hi hok
      refine wc_skip ?_
      refine wc_seq ?_
      refine wc_block ?_
      refine wc_seq ?_
      refine wc_region ?_
      refine wl_v rfl rfl rfl (v_move rfl) ?_
      refine wl_v rfl rfl rfl (v_idx Try.underlying22 sz38 hM.ad rfl rfl (by omega) (by omega)) ?_
      obtain ⟨B39, cp39, hc39, hl39, hr39⟩ := hM.atSlN (i := i) (by omega)
      refine wl_v rfl rfl rfl (v_load one38 rfl (H.cell (hc39))) ?_
      refine wl_v rfl rfl rfl (v_assign rfl) ?_
      refine wl_v rfl rfl rfl (v_assign rfl) ?_
      refine wl_nil ?_
      refine wc_seq ?_
      refine wc_seq ?_
      refine wc_region ?_
      refine wl_v rfl rfl rfl (v_move rfl) ?_
      refine wl_v rfl rfl rfl (v_len Try.underlying38 rfl) ?_
      refine wl_v rfl rfl rfl (v_move rfl) ?_
      refine wl_nil ?_
      refine wc_block ?_
      have hO1 : (headB t ++ rowsB t i ++ mvsB ((t.mv.getD i []).take 0)) = (headB t ++ rowsB t i) := by simp [mvsB]
      refine wc_loop (σ := Nat × Option Addr × Nat) (fun s => [(1, .pointer (some ⟨b1, 0, none⟩)), (4, .slice s.2.1 (headB t ++ rowsB t i ++ mvsB ((t.mv.getD i []).take s.1)).length s.2.2), (5, .int .i64 i), (33, .slice A t.mv.length ca), (34, .int .i64 t.mv.length), (35, .int .i64 i), (40, .slice B39 (t.mv.getD i []).length cp39), (41, .int .i64 (t.mv.getD i []).length), (42, .int .i64 s.1)]) (fun s W => (s.1 ≤ (t.mv.getD i []).length ∧ ∀ m ∈ (t.mv.getD i []).take s.1, okMv m) ∧ Holds w [Row (fInt .u8) 5 (.slice s.2.1 (headB t ++ rowsB t i ++ mvsB ((t.mv.getD i []).take s.1)).length s.2.2) (headB t ++ rowsB t i ++ mvsB ((t.mv.getD i []).take s.1)), Blk b1 25 [.slice A t.mv.length ca, .slice B t.go.length cb]] W) (fun s => (t.mv.getD i []).length - s.1) (0, A4, cz4) (by dsimp only; rw [hO1]; exact (sc rfl (sc rfl (sc rfl (sc rfl (sc rfl (sc rfl (sc rfl (sc rfl (sc rfl (sn _))))))))))) ⟨⟨Nat.zero_le _, fun m hm => by simp at hm⟩, by dsimp only; rw [hO1]; exact H.pm (by repeat constructor)⟩ ?_
      rintro ⟨j, A4, cz4⟩ W1 ⟨⟨hj, hmk⟩, H⟩
      dsimp only at hj hmk H ⊢
      refine wc_seq ?_
      refine wc_region ?_
      refine wl_v rfl rfl rfl (v_lss rfl rfl) ?_
      refine wl_nil ?_
      refine wc_seq ?_
      refine wc_cond rfl (fun c2 => ?_) (fun c2 => ?_)
      · have c2p := of_decide_eq_true c2
        have hl1 := out1 hs r3 (show i < t.mv.length by omega) hok hmk
        refine wc_skip ?_
        refine wc_seq ?_
        refine wc_block ?_
        refine wc_seq ?_
        refine wc_region ?_
        refine wl_v rfl rfl rfl (v_idx Try.underlying38 sz48 hr39.ad rfl rfl (by omega) (by omega)) ?_
        refine wl_v rfl rfl rfl (v_loadN (cs := fMv.enc _) agg48 rfl rfl (fun k u hu => H.cell (hr39.atN (i := j) (k := k) mv0 (by omega) hu))) ?_
        refine wl_alloc (cs := [.int .i64 0, .int .i64 0]) H rfl zv48 rfl ?_
        intro b8 w11 hb8 H12
        refine wl_store (vs := [_, _]) H12 (by repeat constructor) sz48 rfl rfl rfl rfl rfl (by repeat constructor) ?_
        intro w13 H14 hw13
        refine wl_nil ?_
        refine wc_seq ?_
        refine wc_seq ?_
        refine wc_region ?_
        refine wl_v rfl rfl rfl (v_fb (o2 := 0) fa48_0 rfl rfl) ?_
        refine wl_v rfl rfl rfl (v_load one3 rfl (H14.at (by repeat constructor) rfl)) ?_
        refine wl_v rfl rfl rfl (v_lss rfl rfl) ?_
        refine wl_v rfl rfl rfl (v_move rfl) ?_
        refine wl_guard rfl rfl rfl (fun g49 => ?_) (fun g49 => ?_)
        · have g49p := of_decide_eq_false g49
          refine wl_v rfl rfl rfl (v_fb (o2 := 0) fa48_0 rfl rfl) ?_
          refine wl_on' rfl rfl g49 ?_
          refine wl_v rfl rfl rfl (v_load one3 rfl (H14.at (by repeat constructor) rfl)) ?_
          refine wl_on' rfl rfl g49 ?_
          refine wl_v rfl rfl rfl (v_gtr rfl rfl) ?_
          refine wl_v rfl rfl rfl (v_pick_f rfl g49 rfl) ?_
          refine wl_v rfl rfl rfl (v_move rfl) ?_
          refine wl_guard rfl rfl rfl (fun g54 => ?_) (fun g54 => ?_)
          · have g54p := of_decide_eq_false g54
            refine wl_v rfl rfl rfl (v_fb (o2 := 1) fa48_1 rfl rfl) ?_
            refine wl_on' rfl rfl g54 ?_
            refine wl_v rfl rfl rfl (v_load one3 rfl (H14.at (by repeat constructor) rfl)) ?_
            refine wl_on' rfl rfl g54 ?_
            refine wl_v rfl rfl rfl (v_lss rfl rfl) ?_
            refine wl_v rfl rfl rfl (v_pick_f rfl g54 rfl) ?_
            refine wl_v rfl rfl rfl (v_move rfl) ?_
            refine wl_guard rfl rfl rfl (fun g59 => ?_) (fun g59 => ?_)
            · have g59p := of_decide_eq_false g59
              refine wl_v rfl rfl rfl (v_fb (o2 := 1) fa48_1 rfl rfl) ?_
              refine wl_on' rfl rfl g59 ?_
              refine wl_v rfl rfl rfl (v_load one3 rfl (H14.at (by repeat constructor) rfl)) ?_
              refine wl_on' rfl rfl g59 ?_
              refine wl_v rfl rfl rfl (v_gtr rfl rfl) ?_
              refine wl_v rfl rfl rfl (v_pick_f rfl g59 rfl) ?_
              refine wl_nil ?_
              refine wc_cond rfl (fun c3 => ?_) (fun c3 => ?_)
              · have c3p := of_decide_eq_true c3
                refine wc_seq ?_
                refine wc_region ?_
                refine wl_v rfl rfl rfl (v_assign rfl) ?_
                refine wl_v rfl rfl rfl (v_assign rfl) ?_
                refine wl_nil ?_
                refine wc_ret ?_
                first
                  | exact ⟨_, res2 rfl rfl rfl, none, 0, by rw [(by_f (fun h => of_ndec c0p h.1)).1, (by_f (fun h => of_ndec c0p h.1)).2]; rfl, by rw [(by_f (fun h => of_ndec c0p h.1)).1]; exact (H14.nilrow 5 1).pm (.cons (.here _ _) (.nil _))⟩
                  | (have hbad : ¬ ByOk t := fun h => by
                       have h1 := (h.2 i (by omega)).1 _ (getD_mem (z := mv0) (show j < (t.mv.getD i []).length by omega))
                       unfold okMv at h1
                       omega
                     exact ⟨_, res2 rfl rfl rfl, none, 0, by rw [(by_f hbad).1, (by_f hbad).2]; rfl, by rw [(by_f hbad).1]; exact (H14.nilrow 5 1).pm (.cons (.here _ _) (.nil _))⟩)
                  | (have hbad : ¬ ByOk t := fun h => by
                       have h1 := (h.2 i (by omega)).2 _ (getD_mem (z := 0) (show j < (t.go.getD i []).length by omega))
                       unfold okGo at h1
                       omega
                     exact ⟨_, res2 rfl rfl rfl, none, 0, by rw [(by_f hbad).1, (by_f hbad).2]; rfl, by rw [(by_f hbad).1]; exact (H14.nilrow 5 1).pm (.cons (.here _ _) (.nil _))⟩)
                  | (have hgood : ByOk t := ⟨⟨r1, r2, r3, r4⟩, hok⟩
                     exact ⟨_, res2 rfl rfl rfl, A4, cz4, by rw [(by_t hgood).1, (by_t hgood).2]; rfl, by rw [(by_t hgood).1]; exact H14.pm (by repeat constructor)⟩)
              · have c3p := of_decide_eq_false c3
                have hom : okMv ((t.mv.getD i []).getD j mv0) := ⟨by omega, by omega, by omega, by omega⟩
                obtain ⟨ho1, ho2, ho3, ho4⟩ := hom
                have hmk' := take_ok mv0 (show j < (t.mv.getD i []).length by omega) hmk ⟨ho1, ho2, ho3, ho4⟩
                have hvd := vint5 (n := ((t.mv.getD i []).getD j mv0).d.toNat) (by omega)
                have hvn := vint5 (n := ((t.mv.getD i []).getD j mv0).n.toNat) (by omega)
                refine wc_skip ?_
                refine wc_tree [0, 1, 2, 4, 5, 7] (fun W => Holds w [Blk b8 48 [.int .i64 ((t.mv.getD i []).getD j mv0).d, .int .i64 ((t.mv.getD i []).getD j mv0).n]] W) mixed ?_
                have Hd := H14.drew
                have HSd : Holds w [Blk b8 48 [.int .i64 ((t.mv.getD i []).getD j mv0).d, .int .i64 ((t.mv.getD i []).getD j mv0).n]] _ := Hd.pm (by repeat constructor)
                refine wj_v (k := 0) rfl (by kernel_rfl) (fun _ _ _ h => h) HSd rfl rfl rfl (fun W HW => v_move rfl) ?_
                refine wj_v (k := 1) rfl (by kernel_rfl) (fun _ _ _ h => h) HSd rfl rfl rfl (fun W HW => v_fb (o2 := 0) fa48_0 rfl rfl) ?_
                refine wj_v (k := 2) rfl (by kernel_rfl) (fun _ _ _ h => h) HSd rfl rfl rfl (fun W HW => v_load one3 rfl (HW.at (by repeat constructor) rfl)) ?_
                refine wj_v (k := 4) rfl (by kernel_rfl) (fun _ _ _ h => h) HSd rfl rfl rfl (fun W HW => v_fb (o2 := 1) fa48_1 rfl rfl) ?_
                refine wj_v (k := 5) rfl (by kernel_rfl) (fun _ _ _ h => h) HSd rfl rfl rfl (fun W HW => v_load one3 rfl (HW.at (by repeat constructor) rfl)) ?_
                refine wj_t (k := 3) rfl (by kernel_rfl) ?_
                refine wl_call en52 rfl rfl (by have hq := short_calls (n := ((t.mv.getD i []).getD j mv0).d.toNat) (xs := (headB t ++ rowsB t i ++ mvsB ((t.mv.getD i []).take j))) (LL := fun v x => [Blk b8 48 [.int .i64 ((t.mv.getD i []).getD j mv0).d, .int .i64 ((t.mv.getD i []).getD j mv0).n], Row (fInt .u8) 5 v x, Blk b1 25 [.slice A t.mv.length ca, .slice B t.go.length cb]]) (fun v x v' y => .there _ (.here _ _ _)) Hd (by rw [List.length_append]; omega) (by omega); rw [Int.toNat_of_nonneg (by omega)] at hq; exact hq) ?_
                rintro _ w15 ⟨A67, c67, rfl, Hc⟩
                have H16 := Hc
                have HS17 : Holds w [Blk b8 48 [.int .i64 ((t.mv.getD i []).getD j mv0).d, .int .i64 ((t.mv.getD i []).getD j mv0).n]] _ := H16.pm (by repeat constructor)
                refine wl_nil (tn ⟨fun _ => HS17, ?_⟩)
                refine wj_t (k := 6) rfl (by kernel_rfl) ?_
                refine wl_call en52 rfl rfl (by have hq := short_calls (n := ((t.mv.getD i []).getD j mv0).n.toNat) (xs := ((headB t ++ rowsB t i ++ mvsB ((t.mv.getD i []).take j)) ++ vint ((t.mv.getD i []).getD j mv0).d.toNat)) (LL := fun v x => [Blk b8 48 [.int .i64 ((t.mv.getD i []).getD j mv0).d, .int .i64 ((t.mv.getD i []).getD j mv0).n], Row (fInt .u8) 5 v x, Blk b1 25 [.slice A t.mv.length ca, .slice B t.go.length cb]]) (fun v x v' y => .there _ (.here _ _ _)) H16 (by rw [List.length_append, List.length_append]; omega) (by omega); rw [Int.toNat_of_nonneg (by omega)] at hq; exact hq) ?_
                rintro _ w18 ⟨A70, c70, rfl, Hc⟩
                have H19 := Hc
                have HS20 : Holds w [Blk b8 48 [.int .i64 ((t.mv.getD i []).getD j mv0).d, .int .i64 ((t.mv.getD i []).getD j mv0).n]] _ := H19.pm (by repeat constructor)
                refine wl_nil (tn ⟨fun _ => HS20, ?_⟩)
                refine wj_v (k := 7) rfl (by kernel_rfl) (fun _ _ _ h => h) HS20 rfl rfl rfl (fun W HW => v_assign rfl) ?_
                refine wj_done (by kernel_rfl) ?_
                refine wc_region ?_
                refine wl_v rfl rfl rfl (v_addi rfl rfl (by omega)) ?_
                refine wl_v rfl rfl rfl (v_move rfl) ?_
                refine wl_nil ?_
                have e1 : (headB t ++ rowsB t i ++ mvsB ((t.mv.getD i []).take (j + 1))) = (headB t ++ rowsB t i ++ mvsB ((t.mv.getD i []).take j)) ++ vint ((t.mv.getD i []).getD j mv0).d.toNat ++ vint ((t.mv.getD i []).getD j mv0).n.toNat := by rw [mvsB_succ (by omega)]; simp only [List.append_assoc]
                exact ⟨(j + 1, A70, c70), by rw [e1]; exact (sc rfl (sc rfl (sc rfl (sc rfl (sc rfl (sc rfl (sc rfl (sc rfl (sc rfl (sn _)))))))))), ⟨⟨by dsimp only; omega, hmk'⟩, by rw [e1]; exact H19.pm (by repeat constructor)⟩, by dsimp only; omega⟩
            · have g59p := of_decide_eq_true g59
              refine wl_off rfl rfl g59 rfl ?_
              refine wl_off rfl rfl g59 rfl ?_
              refine wl_v rfl rfl rfl (v_pick_t rfl g59 rfl) ?_
              refine wl_nil ?_
              refine wc_cond_t rfl ?_
              refine wc_seq ?_
              refine wc_region ?_
              refine wl_v rfl rfl rfl (v_assign rfl) ?_
              refine wl_v rfl rfl rfl (v_assign rfl) ?_
              refine wl_nil ?_
              refine wc_ret ?_
              first
                | exact ⟨_, res2 rfl rfl rfl, none, 0, by rw [(by_f (fun h => of_ndec c0p h.1)).1, (by_f (fun h => of_ndec c0p h.1)).2]; rfl, by rw [(by_f (fun h => of_ndec c0p h.1)).1]; exact (H14.nilrow 5 1).pm (.cons (.here _ _) (.nil _))⟩
                | (have hbad : ¬ ByOk t := fun h => by
                     have h1 := (h.2 i (by omega)).1 _ (getD_mem (z := mv0) (show j < (t.mv.getD i []).length by omega))
                     unfold okMv at h1
                     omega
                   exact ⟨_, res2 rfl rfl rfl, none, 0, by rw [(by_f hbad).1, (by_f hbad).2]; rfl, by rw [(by_f hbad).1]; exact (H14.nilrow 5 1).pm (.cons (.here _ _) (.nil _))⟩)
                | (have hbad : ¬ ByOk t := fun h => by
                     have h1 := (h.2 i (by omega)).2 _ (getD_mem (z := 0) (show j < (t.go.getD i []).length by omega))
                     unfold okGo at h1
                     omega
                   exact ⟨_, res2 rfl rfl rfl, none, 0, by rw [(by_f hbad).1, (by_f hbad).2]; rfl, by rw [(by_f hbad).1]; exact (H14.nilrow 5 1).pm (.cons (.here _ _) (.nil _))⟩)
                | (have hgood : ByOk t := ⟨⟨r1, r2, r3, r4⟩, hok⟩
                   exact ⟨_, res2 rfl rfl rfl, A4, cz4, by rw [(by_t hgood).1, (by_t hgood).2]; rfl, by rw [(by_t hgood).1]; exact H14.pm (by repeat constructor)⟩)
          · have g54p := of_decide_eq_true g54
            refine wl_off rfl rfl g54 rfl ?_
            refine wl_off rfl rfl g54 rfl ?_
            refine wl_v rfl rfl rfl (v_pick_t rfl g54 rfl) ?_
            refine wl_v rfl rfl rfl (v_move rfl) ?_
            refine wl_off rfl rfl rfl rfl ?_
            refine wl_off rfl rfl rfl rfl ?_
            refine wl_off rfl rfl rfl rfl ?_
            refine wl_v rfl rfl rfl (v_pick_t rfl rfl rfl) ?_
            refine wl_nil ?_
            refine wc_cond_t rfl ?_
            refine wc_seq ?_
            refine wc_region ?_
            refine wl_v rfl rfl rfl (v_assign rfl) ?_
            refine wl_v rfl rfl rfl (v_assign rfl) ?_
            refine wl_nil ?_
            refine wc_ret ?_
            first
              | exact ⟨_, res2 rfl rfl rfl, none, 0, by rw [(by_f (fun h => of_ndec c0p h.1)).1, (by_f (fun h => of_ndec c0p h.1)).2]; rfl, by rw [(by_f (fun h => of_ndec c0p h.1)).1]; exact (H14.nilrow 5 1).pm (.cons (.here _ _) (.nil _))⟩
              | (have hbad : ¬ ByOk t := fun h => by
                   have h1 := (h.2 i (by omega)).1 _ (getD_mem (z := mv0) (show j < (t.mv.getD i []).length by omega))
                   unfold okMv at h1
                   omega
                 exact ⟨_, res2 rfl rfl rfl, none, 0, by rw [(by_f hbad).1, (by_f hbad).2]; rfl, by rw [(by_f hbad).1]; exact (H14.nilrow 5 1).pm (.cons (.here _ _) (.nil _))⟩)
              | (have hbad : ¬ ByOk t := fun h => by
                   have h1 := (h.2 i (by omega)).2 _ (getD_mem (z := 0) (show j < (t.go.getD i []).length by omega))
                   unfold okGo at h1
                   omega
                 exact ⟨_, res2 rfl rfl rfl, none, 0, by rw [(by_f hbad).1, (by_f hbad).2]; rfl, by rw [(by_f hbad).1]; exact (H14.nilrow 5 1).pm (.cons (.here _ _) (.nil _))⟩)
              | (have hgood : ByOk t := ⟨⟨r1, r2, r3, r4⟩, hok⟩
                 exact ⟨_, res2 rfl rfl rfl, A4, cz4, by rw [(by_t hgood).1, (by_t hgood).2]; rfl, by rw [(by_t hgood).1]; exact H14.pm (by repeat constructor)⟩)
        · have g49p := of_decide_eq_true g49
          refine wl_off rfl rfl g49 rfl ?_
          refine wl_off rfl rfl g49 rfl ?_
          refine wl_v rfl rfl rfl (v_pick_t rfl g49 rfl) ?_
          refine wl_v rfl rfl rfl (v_move rfl) ?_
          refine wl_off rfl rfl rfl rfl ?_
          refine wl_off rfl rfl rfl rfl ?_
          refine wl_off rfl rfl rfl rfl ?_
          refine wl_v rfl rfl rfl (v_pick_t rfl rfl rfl) ?_
          refine wl_v rfl rfl rfl (v_move rfl) ?_
          refine wl_off rfl rfl rfl rfl ?_
          refine wl_off rfl rfl rfl rfl ?_
          refine wl_off rfl rfl rfl rfl ?_
          refine wl_v rfl rfl rfl (v_pick_t rfl rfl rfl) ?_
          refine wl_nil ?_
          refine wc_cond_t rfl ?_
          refine wc_seq ?_
          refine wc_region ?_
          refine wl_v rfl rfl rfl (v_assign rfl) ?_
          refine wl_v rfl rfl rfl (v_assign rfl) ?_
          refine wl_nil ?_
          refine wc_ret ?_
          first
            | exact ⟨_, res2 rfl rfl rfl, none, 0, by rw [(by_f (fun h => of_ndec c0p h.1)).1, (by_f (fun h => of_ndec c0p h.1)).2]; rfl, by rw [(by_f (fun h => of_ndec c0p h.1)).1]; exact (H14.nilrow 5 1).pm (.cons (.here _ _) (.nil _))⟩
            | (have hbad : ¬ ByOk t := fun h => by
                 have h1 := (h.2 i (by omega)).1 _ (getD_mem (z := mv0) (show j < (t.mv.getD i []).length by omega))
                 unfold okMv at h1
                 omega
               exact ⟨_, res2 rfl rfl rfl, none, 0, by rw [(by_f hbad).1, (by_f hbad).2]; rfl, by rw [(by_f hbad).1]; exact (H14.nilrow 5 1).pm (.cons (.here _ _) (.nil _))⟩)
            | (have hbad : ¬ ByOk t := fun h => by
                 have h1 := (h.2 i (by omega)).2 _ (getD_mem (z := 0) (show j < (t.go.getD i []).length by omega))
                 unfold okGo at h1
                 omega
               exact ⟨_, res2 rfl rfl rfl, none, 0, by rw [(by_f hbad).1, (by_f hbad).2]; rfl, by rw [(by_f hbad).1]; exact (H14.nilrow 5 1).pm (.cons (.here _ _) (.nil _))⟩)
            | (have hgood : ByOk t := ⟨⟨r1, r2, r3, r4⟩, hok⟩
               exact ⟨_, res2 rfl rfl rfl, A4, cz4, by rw [(by_t hgood).1, (by_t hgood).2]; rfl, by rw [(by_t hgood).1]; exact H14.pm (by repeat constructor)⟩)
      · have c2p := of_decide_eq_false c2
        rw [take_all c2p] at H hmk ⊢
        have hrow := hmk
        refine wc_exit ?_
        refine wc_seq ?_
        refine wc_region ?_
        refine wl_v rfl rfl rfl (v_fb (o2 := 1) fa25_1 rfl rfl) ?_
        refine wl_v rfl rfl rfl (v_load one23 rfl (H.at (by repeat constructor) rfl)) ?_
        refine wl_v rfl rfl rfl (v_move rfl) ?_
        refine wl_v rfl rfl rfl (v_idx Try.underlying23 sz39 hG.ad rfl rfl (by omega) (by omega)) ?_
        obtain ⟨B76, cp76, hc76, hl76, hr76⟩ := hG.atSlN (i := i) (by omega)
        refine wl_v rfl rfl rfl (v_load one39 rfl (H.cell (hc76))) ?_
        refine wl_v rfl rfl rfl (v_len Try.underlying39 rfl) ?_
        refine wl_v rfl rfl rfl (v_move rfl) ?_
        refine wl_nil ?_
        refine wc_block ?_
        have hO2 : (headB t ++ rowsB t i ++ mvsB (t.mv.getD i []) ++ gosB ((t.go.getD i []).take 0)) = (headB t ++ rowsB t i ++ mvsB (t.mv.getD i [])) := by simp [gosB]
        refine wc_loop (σ := Nat × Option Addr × Nat) (fun s => [(1, .pointer (some ⟨b1, 0, none⟩)), (4, .slice s.2.1 (headB t ++ rowsB t i ++ mvsB (t.mv.getD i []) ++ gosB ((t.go.getD i []).take s.1)).length s.2.2), (33, .slice A t.mv.length ca), (34, .int .i64 t.mv.length), (35, .int .i64 i), (76, .slice B76 (t.go.getD i []).length cp76), (77, .int .i64 (t.go.getD i []).length), (78, .int .i64 s.1)]) (fun s W => (s.1 ≤ (t.go.getD i []).length ∧ ∀ x ∈ (t.go.getD i []).take s.1, okGo x) ∧ Holds w [Row (fInt .u8) 5 (.slice s.2.1 (headB t ++ rowsB t i ++ mvsB (t.mv.getD i []) ++ gosB ((t.go.getD i []).take s.1)).length s.2.2) (headB t ++ rowsB t i ++ mvsB (t.mv.getD i []) ++ gosB ((t.go.getD i []).take s.1)), Blk b1 25 [.slice A t.mv.length ca, .slice B t.go.length cb]] W) (fun s => (t.go.getD i []).length - s.1) (0, A4, cz4) (by dsimp only; rw [hO2]; exact (sc rfl (sc rfl (sc rfl (sc rfl (sc rfl (sc rfl (sc rfl (sc rfl (sn _)))))))))) ⟨⟨Nat.zero_le _, fun m hm => by simp at hm⟩, by dsimp only; rw [hO2]; exact H.pm (by repeat constructor)⟩ ?_
        rintro ⟨j, A4, cz4⟩ W2 ⟨⟨hj, hgk⟩, H⟩
        dsimp only at hj hgk H ⊢
        refine wc_seq ?_
        refine wc_region ?_
        refine wl_v rfl rfl rfl (v_lss rfl rfl) ?_
        refine wl_nil ?_
        refine wc_seq ?_
        refine wc_cond rfl (fun c4 => ?_) (fun c4 => ?_)
        · have c4p := of_decide_eq_true c4
          have hl2 := out2 hs r3 (show i < t.mv.length by omega) hok hrow hgk
          refine wc_skip ?_
          refine wc_seq ?_
          refine wc_block ?_
          refine wc_seq ?_
          refine wc_region ?_
          refine wl_v rfl rfl rfl (v_idx Try.underlying39 sz3 hr76.ad rfl rfl (by omega) (by omega)) ?_
          refine wl_v rfl rfl rfl (v_load one3 rfl (H.cell (hr76.at1N (i := j) (by omega)))) ?_
          refine wl_v rfl rfl rfl (v_assign rfl) ?_
          refine wl_nil ?_
          refine wc_seq ?_
          refine wc_seq ?_
          refine wc_region ?_
          refine wl_v rfl rfl rfl (v_move rfl) ?_
          refine wl_v rfl rfl rfl (v_lss rfl rfl) ?_
          refine wl_v rfl rfl rfl (v_move rfl) ?_
          refine wl_guard rfl rfl rfl (fun g84 => ?_) (fun g84 => ?_)
          · have g84p := of_decide_eq_false g84
            refine wl_v rfl rfl rfl (v_move rfl) ?_
            refine wl_on' rfl rfl g84 ?_
            refine wl_v rfl rfl rfl (v_gtr rfl rfl) ?_
            refine wl_v rfl rfl rfl (v_pick_f rfl g84 rfl) ?_
            refine wl_nil ?_
            refine wc_cond rfl (fun c5 => ?_) (fun c5 => ?_)
            · have c5p := of_decide_eq_true c5
              refine wc_seq ?_
              refine wc_region ?_
              refine wl_v rfl rfl rfl (v_assign rfl) ?_
              refine wl_v rfl rfl rfl (v_assign rfl) ?_
              refine wl_nil ?_
              refine wc_ret ?_
              first
                | exact ⟨_, res2 rfl rfl rfl, none, 0, by rw [(by_f (fun h => of_ndec c0p h.1)).1, (by_f (fun h => of_ndec c0p h.1)).2]; rfl, by rw [(by_f (fun h => of_ndec c0p h.1)).1]; exact (H.nilrow 5 1).pm (.cons (.here _ _) (.nil _))⟩
                | (have hbad : ¬ ByOk t := fun h => by
                     have h1 := (h.2 i (by omega)).1 _ (getD_mem (z := mv0) (show j < (t.mv.getD i []).length by omega))
                     unfold okMv at h1
                     omega
                   exact ⟨_, res2 rfl rfl rfl, none, 0, by rw [(by_f hbad).1, (by_f hbad).2]; rfl, by rw [(by_f hbad).1]; exact (H.nilrow 5 1).pm (.cons (.here _ _) (.nil _))⟩)
                | (have hbad : ¬ ByOk t := fun h => by
                     have h1 := (h.2 i (by omega)).2 _ (getD_mem (z := 0) (show j < (t.go.getD i []).length by omega))
                     unfold okGo at h1
                     omega
                   exact ⟨_, res2 rfl rfl rfl, none, 0, by rw [(by_f hbad).1, (by_f hbad).2]; rfl, by rw [(by_f hbad).1]; exact (H.nilrow 5 1).pm (.cons (.here _ _) (.nil _))⟩)
                | (have hgood : ByOk t := ⟨⟨r1, r2, r3, r4⟩, hok⟩
                   exact ⟨_, res2 rfl rfl rfl, A4, cz4, by rw [(by_t hgood).1, (by_t hgood).2]; rfl, by rw [(by_t hgood).1]; exact H.pm (by repeat constructor)⟩)
            · have c5p := of_decide_eq_false c5
              have hog : okGo ((t.go.getD i []).getD j 0) := ⟨by omega, by omega⟩
              obtain ⟨ho1, ho2⟩ := hog
              have hgk' := take_ok 0 (show j < (t.go.getD i []).length by omega) hgk ⟨ho1, ho2⟩
              have hvx := vint5 (n := ((t.go.getD i []).getD j 0 + 1).toNat) (by omega)
              refine wc_skip ?_
              refine wc_region ?_
              refine wl_v rfl rfl rfl (v_move rfl) ?_
              refine wl_v rfl rfl rfl (v_move rfl) ?_
              refine wl_v rfl rfl rfl (v_addi rfl rfl (by omega)) ?_
              refine wl_call en52 rfl rfl (by have hq := short_calls (n := ((t.go.getD i []).getD j 0 + 1).toNat) (xs := (headB t ++ rowsB t i ++ mvsB (t.mv.getD i []) ++ gosB ((t.go.getD i []).take j))) (LL := fun v x => [Row (fInt .u8) 5 v x, Blk b1 25 [.slice A t.mv.length ca, .slice B t.go.length cb]]) (fun v x v' y => .here _ _ _) H (by rw [List.length_append]; omega) (by omega); rw [Int.toNat_of_nonneg (by omega)] at hq; exact hq) ?_
              rintro _ w21 ⟨A91, c91, rfl, Hc⟩
              have H22 := Hc
              refine wl_v rfl rfl rfl (v_assign rfl) ?_
              refine wl_nil ?_
              refine wc_region ?_
              refine wl_v rfl rfl rfl (v_addi rfl rfl (by omega)) ?_
              refine wl_v rfl rfl rfl (v_move rfl) ?_
              refine wl_nil ?_
              have e2 : (headB t ++ rowsB t i ++ mvsB (t.mv.getD i []) ++ gosB ((t.go.getD i []).take (j + 1))) = (headB t ++ rowsB t i ++ mvsB (t.mv.getD i []) ++ gosB ((t.go.getD i []).take j)) ++ vint ((t.go.getD i []).getD j 0 + 1).toNat := by rw [gosB_succ (by omega)]; simp only [List.append_assoc]
              exact ⟨(j + 1, A91, c91), by rw [e2]; exact (sc rfl (sc rfl (sc rfl (sc rfl (sc rfl (sc rfl (sc rfl (sc rfl (sn _))))))))), ⟨⟨by dsimp only; omega, hgk'⟩, by rw [e2]; exact H22.pm (by repeat constructor)⟩, by dsimp only; omega⟩
          · have g84p := of_decide_eq_true g84
            refine wl_off rfl rfl g84 rfl ?_
            refine wl_v rfl rfl rfl (v_pick_t rfl g84 rfl) ?_
            refine wl_nil ?_
            refine wc_cond_t rfl ?_
            refine wc_seq ?_
            refine wc_region ?_
            refine wl_v rfl rfl rfl (v_assign rfl) ?_
            refine wl_v rfl rfl rfl (v_assign rfl) ?_
            refine wl_nil ?_
            refine wc_ret ?_
            first
              | exact ⟨_, res2 rfl rfl rfl, none, 0, by rw [(by_f (fun h => of_ndec c0p h.1)).1, (by_f (fun h => of_ndec c0p h.1)).2]; rfl, by rw [(by_f (fun h => of_ndec c0p h.1)).1]; exact (H.nilrow 5 1).pm (.cons (.here _ _) (.nil _))⟩
              | (have hbad : ¬ ByOk t := fun h => by
                   have h1 := (h.2 i (by omega)).1 _ (getD_mem (z := mv0) (show j < (t.mv.getD i []).length by omega))
                   unfold okMv at h1
                   omega
                 exact ⟨_, res2 rfl rfl rfl, none, 0, by rw [(by_f hbad).1, (by_f hbad).2]; rfl, by rw [(by_f hbad).1]; exact (H.nilrow 5 1).pm (.cons (.here _ _) (.nil _))⟩)
              | (have hbad : ¬ ByOk t := fun h => by
                   have h1 := (h.2 i (by omega)).2 _ (getD_mem (z := 0) (show j < (t.go.getD i []).length by omega))
                   unfold okGo at h1
                   omega
                 exact ⟨_, res2 rfl rfl rfl, none, 0, by rw [(by_f hbad).1, (by_f hbad).2]; rfl, by rw [(by_f hbad).1]; exact (H.nilrow 5 1).pm (.cons (.here _ _) (.nil _))⟩)
              | (have hgood : ByOk t := ⟨⟨r1, r2, r3, r4⟩, hok⟩
                 exact ⟨_, res2 rfl rfl rfl, A4, cz4, by rw [(by_t hgood).1, (by_t hgood).2]; rfl, by rw [(by_t hgood).1]; exact H.pm (by repeat constructor)⟩)
        · have c4p := of_decide_eq_false c4
          rw [take_all c4p] at H hgk ⊢
          refine wc_exit ?_
          refine wc_region ?_
          refine wl_v rfl rfl rfl (v_addi rfl rfl (by omega)) ?_
          refine wl_v rfl rfl rfl (v_move rfl) ?_
          refine wl_nil ?_
          have e0 : (headB t ++ rowsB t (i + 1)) = (headB t ++ rowsB t i ++ mvsB (t.mv.getD i []) ++ gosB (t.go.getD i [])) := by rw [rowsB_succ]; simp only [List.append_assoc]
          exact ⟨(i + 1, A4, cz4), by rw [e0]; exact (sc rfl (sc rfl (sc rfl (sc rfl (sc rfl (sn _)))))), ⟨⟨by dsimp only; omega, upto_succ hok ⟨hrow, hgk⟩⟩, by rw [e0]; exact H.pm (by repeat constructor)⟩, by dsimp only; omega⟩
    · have c1p := of_decide_eq_false c1
      obtain rfl : i = t.mv.length := by omega
      refine wc_exit ?_
      refine wc_seq ?_
      refine wc_region ?_
      refine wl_v rfl rfl rfl (v_move rfl) ?_
      refine wl_v rfl rfl rfl (v_assign rfl) ?_
      refine wl_v rfl rfl rfl (v_assign rfl) ?_
      refine wl_nil ?_
      refine wc_ret ?_
      first
        | exact ⟨_, res2 rfl rfl rfl, none, 0, by rw [(by_f (fun h => of_ndec c0p h.1)).1, (by_f (fun h => of_ndec c0p h.1)).2]; rfl, by rw [(by_f (fun h => of_ndec c0p h.1)).1]; exact (H.nilrow 5 1).pm (.cons (.here _ _) (.nil _))⟩
        | (have hbad : ¬ ByOk t := fun h => by
             have h1 := (h.2 i (by omega)).1 _ (getD_mem (z := mv0) (show j < (t.mv.getD i []).length by omega))
             unfold okMv at h1
             omega
           exact ⟨_, res2 rfl rfl rfl, none, 0, by rw [(by_f hbad).1, (by_f hbad).2]; rfl, by rw [(by_f hbad).1]; exact (H.nilrow 5 1).pm (.cons (.here _ _) (.nil _))⟩)
        | (have hbad : ¬ ByOk t := fun h => by
             have h1 := (h.2 i (by omega)).2 _ (getD_mem (z := 0) (show j < (t.go.getD i []).length by omega))
             unfold okGo at h1
             omega
           exact ⟨_, res2 rfl rfl rfl, none, 0, by rw [(by_f hbad).1, (by_f hbad).2]; rfl, by rw [(by_f hbad).1]; exact (H.nilrow 5 1).pm (.cons (.here _ _) (.nil _))⟩)
        | (have hgood : ByOk t := ⟨⟨r1, r2, r3, r4⟩, hok⟩
           exact ⟨_, res2 rfl rfl rfl, A4, cz4, by rw [(by_t hgood).1, (by_t hgood).2]; rfl, by rw [(by_t hgood).1]; exact H.pm (by repeat constructor)⟩)

set_option maxHeartbeats 1600000 in
set_option maxRecDepth 100000 in
theorem rbytes_calls {A B : Option Addr} {ca cb : Nat} {t : Tb} {w : World} (hx : t.rd w A B) (hs : BSm t) :
    Calls Try.prog 28 #[t.val A B ca cb] w fun e w' => ∃ v, e = .returned v ∧ ∃ A' c, v = .tuple #[.slice A' (bytesA t).length c, .int .i64 (bytesE t)] ∧ Holds w [Row (fInt .u8) 5 (.slice A' (bytesA t).length c) (bytesA t)] w' := by
  have hM := hx.m
  have hG := hx.g
  have q1 := hs.ok.m'
  have q2 := hs.ok.g'
  have q3 := hs.m
  refine calls_of Try.func28 rfl Try.ntmps28 rfl ?_
  have H := Holds.start w
  refine wc_seq ?_
  refine wc_region ?_
  refine wl_box (cs := [_, _]) H rfl rfl rfl ?_
  intro b1 w1 hb1 H2
  refine wl_v rfl rfl rfl (v_assign rfl) ?_
  refine wl_v rfl rfl rfl (v_assign rfl) ?_
  refine wl_nil ?_
  refine wc_seq ?_
  refine wc_seq ?_
  refine wc_region ?_
  refine wl_v rfl rfl rfl (v_loadN agg25 rfl rfl (H2.ats (by repeat constructor))) ?_
  refine wl_call en34 rfl rfl (rows_calls (hx.below H2.old) hs.ok) ?_
  rintro _ w3 ⟨rfl, Hc⟩
  have H4 := H2.call Hc
  refine wl_v rfl rfl rfl (v_not rfl) ?_
  refine wl_nil ?_
  refine wc_cond rfl (fun c0 => ?_) (fun c0 => ?_)
  · have c0p := of_n_t c0
    refine wc_seq ?_
    refine wc_region ?_
    refine wl_v rfl rfl rfl (v_assign rfl) ?_
    refine wl_v rfl rfl rfl (v_assign rfl) ?_
    refine wl_nil ?_
    refine wc_ret ?_
    first
      | exact ⟨_, res2 rfl rfl rfl, none, 0, by rw [(by_f (fun h => of_ndec c0p h.1)).1, (by_f (fun h => of_ndec c0p h.1)).2]; rfl, by rw [(by_f (fun h => of_ndec c0p h.1)).1]; exact (H4.nilrow 5 1).pm (.cons (.here _ _) (.nil _))⟩
      | (have hbad : ¬ ByOk t := fun h => by
           have h1 := (h.2 i (by omega)).1 _ (getD_mem (z := mv0) (show j < (t.mv.getD i []).length by omega))
           unfold okMv at h1
           omega
         exact ⟨_, res2 rfl rfl rfl, none, 0, by rw [(by_f hbad).1, (by_f hbad).2]; rfl, by rw [(by_f hbad).1]; exact (H4.nilrow 5 1).pm (.cons (.here _ _) (.nil _))⟩)
      | (have hbad : ¬ ByOk t := fun h => by
           have h1 := (h.2 i (by omega)).2 _ (getD_mem (z := 0) (show j < (t.go.getD i []).length by omega))
           unfold okGo at h1
           omega
         exact ⟨_, res2 rfl rfl rfl, none, 0, by rw [(by_f hbad).1, (by_f hbad).2]; rfl, by rw [(by_f hbad).1]; exact (H4.nilrow 5 1).pm (.cons (.here _ _) (.nil _))⟩)
      | (have hgood : ByOk t := ⟨⟨r1, r2, r3, r4⟩, hok⟩
         exact ⟨_, res2 rfl rfl rfl, A4, cz4, by rw [(by_t hgood).1, (by_t hgood).2]; rfl, by rw [(by_t hgood).1]; exact H4.pm (by repeat constructor)⟩)
  · have c0p := of_n_f c0
    have hR := of_dec c0p
    obtain ⟨r1, r2, r3, r4⟩ := hR
    have r5 := hs.ml (i := 0) r1
    have r6 := hs.gl (i := 0) (by omega)
    have hv1 := vint5 (n := t.mv.length) (by omega)
    have hv2 := vint5 (n := (t.mv.getD 0 []).length) (by omega)
    have hv3 := vint5 (n := (t.go.getD 0 []).length) (by omega)
    refine wc_skip ?_
    refine wc_seq ?_
    refine wc_tree [0, 1, 2, 4, 5, 6, 7, 8, 11] (fun W => Holds w [Blk b1 25 [.slice A t.mv.length ca, .slice B t.go.length cb]] W) mixed ?_
    have Hd := H4.drew
    have HSd : Holds w [Blk b1 25 [.slice A t.mv.length ca, .slice B t.go.length cb]] _ := Hd.pm (by repeat constructor)
    refine wj_v (k := 0) rfl (by kernel_rfl) (fun _ _ _ h => h) HSd rfl rfl rfl (fun W HW => v_fb (o2 := 0) fa25_0 rfl rfl) ?_
    refine wj_v (k := 1) rfl (by kernel_rfl) (fun _ _ _ h => h) HSd rfl rfl rfl (fun W HW => v_load one22 rfl (HW.at (by repeat constructor) rfl)) ?_
    refine wj_v (k := 2) rfl (by kernel_rfl) (fun _ _ _ h => h) HSd rfl rfl rfl (fun W HW => v_len Try.underlying22 rfl) ?_
    refine wj_v (k := 4) rfl (by kernel_rfl) (fun _ _ _ h => h) HSd rfl rfl rfl (fun W HW => v_fb (o2 := 0) fa25_0 rfl rfl) ?_
    refine wj_v (k := 5) rfl (by kernel_rfl) (fun _ _ _ h => h) HSd rfl rfl rfl (fun W HW => v_load one22 rfl (HW.at (by repeat constructor) rfl)) ?_
    refine wj_v (k := 6) rfl (by kernel_rfl) (fun _ _ _ h => h) HSd rfl rfl rfl (fun W HW => v_idx Try.underlying22 sz38 hM.ad rfl rfl (by omega) (by omega)) ?_
    obtain ⟨B19, cp19, hc19, hl19, hr19⟩ := hM.atSlN (i := 0) (by omega)
    refine wj_v (k := 7) rfl (by kernel_rfl) (fun _ _ _ h => h) HSd rfl rfl rfl (fun W HW => v_load one38 rfl (HW.cell (hc19))) ?_
    refine wj_v (k := 8) rfl (by kernel_rfl) (fun _ _ _ h => h) HSd rfl rfl rfl (fun W HW => v_len Try.underlying38 rfl) ?_
    refine wj_t (k := 3) rfl (by kernel_rfl) ?_
    refine wl_call en53 rfl rfl (uint_calls (n := t.mv.length) (by omega)) ?_
    rintro _ w5 ⟨A15, c15, rfl, Hc⟩
    have H6 := Hd.call Hc
    have HS7 : Holds w [Blk b1 25 [.slice A t.mv.length ca, .slice B t.go.length cb]] _ := H6.pm (by repeat constructor)
    refine wl_nil (tn ⟨fun _ => HS7, ?_⟩)
    refine wj_t (k := 9) rfl (by kernel_rfl) ?_
    refine wl_call en53 rfl rfl (uint_calls (n := (t.mv.getD 0 []).length) (by omega)) ?_
    rintro _ w8 ⟨A21, c21, rfl, Hc⟩
    have H9 := H6.call Hc
    have HS10 : Holds w [Blk b1 25 [.slice A t.mv.length ca, .slice B t.go.length cb]] _ := H9.pm (by repeat constructor)
    refine wl_nil (tn ⟨fun _ => HS10, ?_⟩)
    refine wj_t (k := 10) rfl (by kernel_rfl) ?_
    refine wl_appR (f := fInt .u8) (xs := (vint t.mv.length)) (ys := (vint (t.mv.getD 0 []).length)) H9 (fun v' => (by repeat constructor)) rfl Try.underlying64 info5 rfl (by decide) rfl rfl (H9.rrd (f := fInt .u8) (e := 5) (A := A21) (xs := (vint (t.mv.getD 0 []).length)) (by repeat constructor)) (by first | omega | (simp only [List.length_append] at *; omega)) (by decide) ?_
    intro A22 c22 w11 H11 hs11
    have HS12 : Holds w [Blk b1 25 [.slice A t.mv.length ca, .slice B t.go.length cb]] _ := H11.pm (by repeat constructor)
    refine wl_nil (tn ⟨fun _ => HS12, ?_⟩)
    refine wj_v (k := 11) rfl (by kernel_rfl) (fun _ _ _ h => h) HS12 rfl rfl rfl (fun W HW => v_assign rfl) ?_
    refine wj_done (by kernel_rfl) ?_
    refine wc_seq ?_
    refine wc_region ?_
    refine wl_v rfl rfl rfl (v_move rfl) ?_
    refine wl_v rfl rfl rfl (v_fb (o2 := 1) fa25_1 rfl rfl) ?_
    refine wl_v rfl rfl rfl (v_load one23 rfl (H11.at (by repeat constructor) rfl)) ?_
    refine wl_v rfl rfl rfl (v_idx Try.underlying23 sz39 hG.ad rfl rfl (by omega) (by omega)) ?_
    obtain ⟨B27, cp27, hc27, hl27, hr27⟩ := hG.atSlN (i := 0) (by omega)
    refine wl_v rfl rfl rfl (v_load one39 rfl (H11.cell (hc27))) ?_
    refine wl_v rfl rfl rfl (v_len Try.underlying39 rfl) ?_
    refine wl_call en53 rfl rfl (uint_calls (n := (t.go.getD 0 []).length) (by omega)) ?_
    rintro _ w13 ⟨A29, c29, rfl, Hc⟩
    have H14 := H11.call Hc
    refine wl_appR (f := fInt .u8) (xs := (vint t.mv.length ++ vint (t.mv.getD 0 []).length)) (ys := (vint (t.go.getD 0 []).length)) H14 (fun v' => (by repeat constructor)) rfl Try.underlying64 info5 rfl (by decide) rfl rfl (H14.rrd (f := fInt .u8) (e := 5) (A := A29) (xs := (vint (t.go.getD 0 []).length)) (by repeat constructor)) (by first | omega | (simp only [List.length_append] at *; omega)) (by decide) ?_
    intro A30 c30 w15 H15 hs15
    refine wl_v rfl rfl rfl (v_assign rfl) ?_
    refine wl_nil ?_
    refine wc_seq ?_
    refine wc_seq ?_
    refine wc_region ?_
    refine wl_v rfl rfl rfl (v_assign rfl) ?_
    refine wl_nil ?_
    refine wc_block ?_
    have hO0 : (headB t ++ rowsB t 0) = (vint t.mv.length ++ vint (t.mv.getD 0 []).length ++ vint (t.go.getD 0 []).length) := by simp [headB, rowsB]
    refine wc_loop (σ := Nat × Option Addr × Nat) (fun s => [(1, .pointer (some ⟨b1, 0, none⟩)), (4, .slice s.2.1 (headB t ++ rowsB t s.1).length s.2.2), (5, .int .i64 s.1)]) (fun s W => (s.1 ≤ t.mv.length ∧ ∀ q, q < s.1 → RowOk2 t q) ∧ Holds w [Row (fInt .u8) 5 (.slice s.2.1 (headB t ++ rowsB t s.1).length s.2.2) (headB t ++ rowsB t s.1), Blk b1 25 [.slice A t.mv.length ca, .slice B t.go.length cb]] W) (fun s => t.mv.length - s.1) (0, A30, c30) (by dsimp only; rw [hO0]; exact (sc rfl (sc rfl (sc rfl (sn _))))) ⟨⟨Nat.zero_le _, upto_zero⟩, by dsimp only; rw [hO0]; exact H15.pm (by repeat constructor)⟩ ?_
    rintro ⟨i, A4, cz4⟩ W0 ⟨⟨hi, hok⟩, H⟩
    dsimp only at hi hok H ⊢
    refine wc_seq ?_
    refine wc_seq ?_
    refine wc_region ?_
    refine wl_v rfl rfl rfl (v_move rfl) ?_
    refine wl_v rfl rfl rfl (v_fb (o2 := 0) fa25_0 rfl rfl) ?_
    refine wl_v rfl rfl rfl (v_load one22 rfl (H.at (by repeat constructor) rfl)) ?_
    refine wl_v rfl rfl rfl (v_len Try.underlying22 rfl) ?_
    refine wl_v rfl rfl rfl (v_lss rfl rfl) ?_
    refine wl_nil ?_
    refine wc_cond rfl (fun c1 => ?_) (fun c1 => ?_)
    · have c1p := of_decide_eq_true c1
      have hrl := hs.ml (i := i) (by omega)
      have hgl := hs.gl (i := i) (by omega)
      have ho0 := out0 hs r3 r1 hi hok
      refine wc_skip ?_
      refine wc_seq ?_
      refine wc_block ?_
      refine wc_seq ?_
      refine wc_seq ?_
      refine wc_region ?_
      refine wl_v rfl rfl rfl (v_assign rfl) ?_
      refine wl_nil ?_
      refine wc_block ?_
      have hO1 : (headB t ++ rowsB t i ++ mvsB ((t.mv.getD i []).take 0)) = (headB t ++ rowsB t i) := by simp [mvsB]
      refine wc_loop (σ := Nat × Option Addr × Nat) (fun s => [(1, .pointer (some ⟨b1, 0, none⟩)), (4, .slice s.2.1 (headB t ++ rowsB t i ++ mvsB ((t.mv.getD i []).take s.1)).length s.2.2), (5, .int .i64 i), (6, .int .i64 s.1)]) (fun s W => (s.1 ≤ (t.mv.getD i []).length ∧ ∀ m ∈ (t.mv.getD i []).take s.1, okMv m) ∧ Holds w [Row (fInt .u8) 5 (.slice s.2.1 (headB t ++ rowsB t i ++ mvsB ((t.mv.getD i []).take s.1)).length s.2.2) (headB t ++ rowsB t i ++ mvsB ((t.mv.getD i []).take s.1)), Blk b1 25 [.slice A t.mv.length ca, .slice B t.go.length cb]] W) (fun s => (t.mv.getD i []).length - s.1) (0, A4, cz4) (by dsimp only; rw [hO1]; exact (sc rfl (sc rfl (sc rfl (sc rfl (sn _)))))) ⟨⟨Nat.zero_le _, fun m hm => by simp at hm⟩, by dsimp only; rw [hO1]; exact H.pm (by repeat constructor)⟩ ?_
      rintro ⟨j, A4, cz4⟩ W1 ⟨⟨hj, hmk⟩, H⟩
      dsimp only at hj hmk H ⊢
      refine wc_seq ?_
      refine wc_seq ?_
      refine wc_region ?_
      refine wl_v rfl rfl rfl (v_move rfl) ?_
      refine wl_v rfl rfl rfl (v_fb (o2 := 0) fa25_0 rfl rfl) ?_
      refine wl_v rfl rfl rfl (v_load one22 rfl (H.at (by repeat constructor) rfl)) ?_
      refine wl_v rfl rfl rfl (v_move rfl) ?_
      refine wl_v rfl rfl rfl (v_idx Try.underlying22 sz38 hM.ad rfl rfl (by omega) (by omega)) ?_
      obtain ⟨B43, cp43, hc43, hl43, hr43⟩ := hM.atSlN (i := i) (by omega)
      refine wl_v rfl rfl rfl (v_load one38 rfl (H.cell (hc43))) ?_
      refine wl_v rfl rfl rfl (v_len Try.underlying38 rfl) ?_
      refine wl_v rfl rfl rfl (v_lss rfl rfl) ?_
      refine wl_nil ?_
      refine wc_cond rfl (fun c2 => ?_) (fun c2 => ?_)
      · have c2p := of_decide_eq_true c2
        have hl1 := out1 hs r3 (show i < t.mv.length by omega) hok hmk
        refine wc_skip ?_
        refine wc_seq ?_
        refine wc_block ?_
        refine wc_seq ?_
        refine wc_region ?_
        refine wl_v rfl rfl rfl (v_fb (o2 := 0) fa25_0 rfl rfl) ?_
        refine wl_v rfl rfl rfl (v_load one22 rfl (H.at (by repeat constructor) rfl)) ?_
        refine wl_v rfl rfl rfl (v_move rfl) ?_
        refine wl_v rfl rfl rfl (v_idx Try.underlying22 sz38 hM.ad rfl rfl (by omega) (by omega)) ?_
        obtain ⟨B52, cp52, hc52, hl52, hr52⟩ := hM.atSlN (i := i) (by omega)
        refine wl_v rfl rfl rfl (v_load one38 rfl (H.cell (hc52))) ?_
        refine wl_v rfl rfl rfl (v_move rfl) ?_
        refine wl_v rfl rfl rfl (v_idx Try.underlying38 sz48 hr52.ad rfl rfl (by omega) (by omega)) ?_
        refine wl_v rfl rfl rfl (v_loadN (cs := fMv.enc _) agg48 rfl rfl (fun k u hu => H.cell (hr52.atN (i := j) (k := k) mv0 (by omega) hu))) ?_
        refine wl_alloc (cs := [.int .i64 0, .int .i64 0]) H rfl zv48 rfl ?_
        intro b7 w16 hb7 H17
        refine wl_store (vs := [_, _]) H17 (by repeat constructor) sz48 rfl rfl rfl rfl rfl (by repeat constructor) ?_
        intro w18 H19 hw18
        refine wl_nil ?_
        refine wc_seq ?_
        refine wc_seq ?_
        refine wc_region ?_
        refine wl_v rfl rfl rfl (v_fb (o2 := 0) fa48_0 rfl rfl) ?_
        refine wl_v rfl rfl rfl (v_load one3 rfl (H19.at (by repeat constructor) rfl)) ?_
        refine wl_v rfl rfl rfl (v_lss rfl rfl) ?_
        refine wl_v rfl rfl rfl (v_move rfl) ?_
        refine wl_guard rfl rfl rfl (fun g59 => ?_) (fun g59 => ?_)
        · have g59p := of_decide_eq_false g59
          refine wl_v rfl rfl rfl (v_fb (o2 := 1) fa48_1 rfl rfl) ?_
          refine wl_on' rfl rfl g59 ?_
          refine wl_v rfl rfl rfl (v_load one3 rfl (H19.at (by repeat constructor) rfl)) ?_
          refine wl_on' rfl rfl g59 ?_
          refine wl_v rfl rfl rfl (v_lss rfl rfl) ?_
          refine wl_v rfl rfl rfl (v_pick_f rfl g59 rfl) ?_
          refine wl_v rfl rfl rfl (v_move rfl) ?_
          refine wl_guard rfl rfl rfl (fun g64 => ?_) (fun g64 => ?_)
          · have g64p := of_decide_eq_false g64
            refine wl_v rfl rfl rfl (v_fb (o2 := 0) fa48_0 rfl rfl) ?_
            refine wl_on' rfl rfl g64 ?_
            refine wl_v rfl rfl rfl (v_load one3 rfl (H19.at (by repeat constructor) rfl)) ?_
            refine wl_on' rfl rfl g64 ?_
            refine wl_v rfl rfl rfl (v_gtr rfl rfl) ?_
            refine wl_v rfl rfl rfl (v_pick_f rfl g64 rfl) ?_
            refine wl_v rfl rfl rfl (v_move rfl) ?_
            refine wl_guard rfl rfl rfl (fun g69 => ?_) (fun g69 => ?_)
            · have g69p := of_decide_eq_false g69
              refine wl_v rfl rfl rfl (v_fb (o2 := 1) fa48_1 rfl rfl) ?_
              refine wl_on' rfl rfl g69 ?_
              refine wl_v rfl rfl rfl (v_load one3 rfl (H19.at (by repeat constructor) rfl)) ?_
              refine wl_on' rfl rfl g69 ?_
              refine wl_v rfl rfl rfl (v_gtr rfl rfl) ?_
              refine wl_v rfl rfl rfl (v_pick_f rfl g69 rfl) ?_
              refine wl_nil ?_
              refine wc_cond rfl (fun c3 => ?_) (fun c3 => ?_)
              · have c3p := of_decide_eq_true c3
                refine wc_seq ?_
                refine wc_region ?_
                refine wl_v rfl rfl rfl (v_assign rfl) ?_
                refine wl_v rfl rfl rfl (v_assign rfl) ?_
                refine wl_nil ?_
                refine wc_ret ?_
                first
                  | exact ⟨_, res2 rfl rfl rfl, none, 0, by rw [(by_f (fun h => of_ndec c0p h.1)).1, (by_f (fun h => of_ndec c0p h.1)).2]; rfl, by rw [(by_f (fun h => of_ndec c0p h.1)).1]; exact (H19.nilrow 5 1).pm (.cons (.here _ _) (.nil _))⟩
                  | (have hbad : ¬ ByOk t := fun h => by
                       have h1 := (h.2 i (by omega)).1 _ (getD_mem (z := mv0) (show j < (t.mv.getD i []).length by omega))
                       unfold okMv at h1
                       omega
                     exact ⟨_, res2 rfl rfl rfl, none, 0, by rw [(by_f hbad).1, (by_f hbad).2]; rfl, by rw [(by_f hbad).1]; exact (H19.nilrow 5 1).pm (.cons (.here _ _) (.nil _))⟩)
                  | (have hbad : ¬ ByOk t := fun h => by
                       have h1 := (h.2 i (by omega)).2 _ (getD_mem (z := 0) (show j < (t.go.getD i []).length by omega))
                       unfold okGo at h1
                       omega
                     exact ⟨_, res2 rfl rfl rfl, none, 0, by rw [(by_f hbad).1, (by_f hbad).2]; rfl, by rw [(by_f hbad).1]; exact (H19.nilrow 5 1).pm (.cons (.here _ _) (.nil _))⟩)
                  | (have hgood : ByOk t := ⟨⟨r1, r2, r3, r4⟩, hok⟩
                     exact ⟨_, res2 rfl rfl rfl, A4, cz4, by rw [(by_t hgood).1, (by_t hgood).2]; rfl, by rw [(by_t hgood).1]; exact H19.pm (by repeat constructor)⟩)
              · have c3p := of_decide_eq_false c3
                have hom : okMv ((t.mv.getD i []).getD j mv0) := ⟨by omega, by omega, by omega, by omega⟩
                obtain ⟨ho1, ho2, ho3, ho4⟩ := hom
                have hmk' := take_ok mv0 (show j < (t.mv.getD i []).length by omega) hmk ⟨ho1, ho2, ho3, ho4⟩
                have hvd := vint5 (n := ((t.mv.getD i []).getD j mv0).d.toNat) (by omega)
                have hvn := vint5 (n := ((t.mv.getD i []).getD j mv0).n.toNat) (by omega)
                refine wc_skip ?_
                refine wc_tree [0, 1, 2, 5, 6, 9] (fun W => Holds w [Blk b7 48 [.int .i64 ((t.mv.getD i []).getD j mv0).d, .int .i64 ((t.mv.getD i []).getD j mv0).n]] W) mixed ?_
                have Hd := H19.drew
                have HSd : Holds w [Blk b7 48 [.int .i64 ((t.mv.getD i []).getD j mv0).d, .int .i64 ((t.mv.getD i []).getD j mv0).n]] _ := Hd.pm (by repeat constructor)
                refine wj_v (k := 0) rfl (by kernel_rfl) (fun _ _ _ h => h) HSd rfl rfl rfl (fun W HW => v_move rfl) ?_
                refine wj_v (k := 1) rfl (by kernel_rfl) (fun _ _ _ h => h) HSd rfl rfl rfl (fun W HW => v_fb (o2 := 0) fa48_0 rfl rfl) ?_
                refine wj_v (k := 2) rfl (by kernel_rfl) (fun _ _ _ h => h) HSd rfl rfl rfl (fun W HW => v_load one3 rfl (HW.at (by repeat constructor) rfl)) ?_
                refine wj_v (k := 5) rfl (by kernel_rfl) (fun _ _ _ h => h) HSd rfl rfl rfl (fun W HW => v_fb (o2 := 1) fa48_1 rfl rfl) ?_
                refine wj_v (k := 6) rfl (by kernel_rfl) (fun _ _ _ h => h) HSd rfl rfl rfl (fun W HW => v_load one3 rfl (HW.at (by repeat constructor) rfl)) ?_
                refine wj_t (k := 3) rfl (by kernel_rfl) ?_
                refine wl_call en53 rfl rfl (uint_callsI (by omega) (by omega)) ?_
                rintro _ w20 ⟨A77, c77, rfl, Hc⟩
                have H21 := Hd.call Hc
                have HS22 : Holds w [Blk b7 48 [.int .i64 ((t.mv.getD i []).getD j mv0).d, .int .i64 ((t.mv.getD i []).getD j mv0).n]] _ := H21.pm (by repeat constructor)
                refine wl_nil (tn ⟨fun _ => HS22, ?_⟩)
                refine wj_t (k := 4) rfl (by kernel_rfl) ?_
                refine wl_appR (f := fInt .u8) (xs := (headB t ++ rowsB t i ++ mvsB ((t.mv.getD i []).take j))) (ys := (vint ((t.mv.getD i []).getD j mv0).d.toNat)) H21 (fun v' => (by repeat constructor)) rfl Try.underlying64 info5 rfl (by decide) rfl rfl (H21.rrd (f := fInt .u8) (e := 5) (A := A77) (xs := (vint ((t.mv.getD i []).getD j mv0).d.toNat)) (by repeat constructor)) (by first | omega | (simp only [List.length_append] at *; omega)) (by decide) ?_
                intro A78 c78 w23 H23 hs23
                have HS24 : Holds w [Blk b7 48 [.int .i64 ((t.mv.getD i []).getD j mv0).d, .int .i64 ((t.mv.getD i []).getD j mv0).n]] _ := H23.pm (by repeat constructor)
                refine wl_nil (tn ⟨fun _ => HS24, ?_⟩)
                refine wj_t (k := 7) rfl (by kernel_rfl) ?_
                refine wl_call en53 rfl rfl (uint_callsI (by omega) (by omega)) ?_
                rintro _ w25 ⟨A81, c81, rfl, Hc⟩
                have H26 := H23.call Hc
                have HS27 : Holds w [Blk b7 48 [.int .i64 ((t.mv.getD i []).getD j mv0).d, .int .i64 ((t.mv.getD i []).getD j mv0).n]] _ := H26.pm (by repeat constructor)
                refine wl_nil (tn ⟨fun _ => HS27, ?_⟩)
                refine wj_t (k := 8) rfl (by kernel_rfl) ?_
                refine wl_appR (f := fInt .u8) (xs := ((headB t ++ rowsB t i ++ mvsB ((t.mv.getD i []).take j)) ++ vint ((t.mv.getD i []).getD j mv0).d.toNat)) (ys := (vint ((t.mv.getD i []).getD j mv0).n.toNat)) H26 (fun v' => (by repeat constructor)) rfl Try.underlying64 info5 rfl (by decide) rfl rfl (H26.rrd (f := fInt .u8) (e := 5) (A := A81) (xs := (vint ((t.mv.getD i []).getD j mv0).n.toNat)) (by repeat constructor)) (by first | omega | (simp only [List.length_append] at *; omega)) (by decide) ?_
                intro A82 c82 w28 H28 hs28
                have HS29 : Holds w [Blk b7 48 [.int .i64 ((t.mv.getD i []).getD j mv0).d, .int .i64 ((t.mv.getD i []).getD j mv0).n]] _ := H28.pm (by repeat constructor)
                refine wl_nil (tn ⟨fun _ => HS29, ?_⟩)
                refine wj_v (k := 9) rfl (by kernel_rfl) (fun _ _ _ h => h) HS29 rfl rfl rfl (fun W HW => v_assign rfl) ?_
                refine wj_done (by kernel_rfl) ?_
                refine wc_region ?_
                refine wl_v rfl rfl rfl (v_move rfl) ?_
                refine wl_v rfl rfl rfl (v_addi rfl rfl (by omega)) ?_
                refine wl_v rfl rfl rfl (v_assign rfl) ?_
                refine wl_nil ?_
                have e1 : (headB t ++ rowsB t i ++ mvsB ((t.mv.getD i []).take (j + 1))) = (headB t ++ rowsB t i ++ mvsB ((t.mv.getD i []).take j)) ++ vint ((t.mv.getD i []).getD j mv0).d.toNat ++ vint ((t.mv.getD i []).getD j mv0).n.toNat := by rw [mvsB_succ (by omega)]; simp only [List.append_assoc]
                exact ⟨(j + 1, A82, c82), by rw [e1]; exact (sc rfl (sc rfl (sc rfl (sc rfl (sn _))))), ⟨⟨by dsimp only; omega, hmk'⟩, by rw [e1]; exact H28.pm (by repeat constructor)⟩, by dsimp only; omega⟩
            · have g69p := of_decide_eq_true g69
              refine wl_off rfl rfl g69 rfl ?_
              refine wl_off rfl rfl g69 rfl ?_
              refine wl_v rfl rfl rfl (v_pick_t rfl g69 rfl) ?_
              refine wl_nil ?_
              refine wc_cond_t rfl ?_
              refine wc_seq ?_
              refine wc_region ?_
              refine wl_v rfl rfl rfl (v_assign rfl) ?_
              refine wl_v rfl rfl rfl (v_assign rfl) ?_
              refine wl_nil ?_
              refine wc_ret ?_
              first
                | exact ⟨_, res2 rfl rfl rfl, none, 0, by rw [(by_f (fun h => of_ndec c0p h.1)).1, (by_f (fun h => of_ndec c0p h.1)).2]; rfl, by rw [(by_f (fun h => of_ndec c0p h.1)).1]; exact (H19.nilrow 5 1).pm (.cons (.here _ _) (.nil _))⟩
                | (have hbad : ¬ ByOk t := fun h => by
                     have h1 := (h.2 i (by omega)).1 _ (getD_mem (z := mv0) (show j < (t.mv.getD i []).length by omega))
                     unfold okMv at h1
                     omega
                   exact ⟨_, res2 rfl rfl rfl, none, 0, by rw [(by_f hbad).1, (by_f hbad).2]; rfl, by rw [(by_f hbad).1]; exact (H19.nilrow 5 1).pm (.cons (.here _ _) (.nil _))⟩)
                | (have hbad : ¬ ByOk t := fun h => by
                     have h1 := (h.2 i (by omega)).2 _ (getD_mem (z := 0) (show j < (t.go.getD i []).length by omega))
                     unfold okGo at h1
                     omega
                   exact ⟨_, res2 rfl rfl rfl, none, 0, by rw [(by_f hbad).1, (by_f hbad).2]; rfl, by rw [(by_f hbad).1]; exact (H19.nilrow 5 1).pm (.cons (.here _ _) (.nil _))⟩)
                | (have hgood : ByOk t := ⟨⟨r1, r2, r3, r4⟩, hok⟩
                   exact ⟨_, res2 rfl rfl rfl, A4, cz4, by rw [(by_t hgood).1, (by_t hgood).2]; rfl, by rw [(by_t hgood).1]; exact H19.pm (by repeat constructor)⟩)
          · have g64p := of_decide_eq_true g64
            refine wl_off rfl rfl g64 rfl ?_
            refine wl_off rfl rfl g64 rfl ?_
            refine wl_v rfl rfl rfl (v_pick_t rfl g64 rfl) ?_
            refine wl_v rfl rfl rfl (v_move rfl) ?_
            refine wl_off rfl rfl rfl rfl ?_
            refine wl_off rfl rfl rfl rfl ?_
            refine wl_off rfl rfl rfl rfl ?_
            refine wl_v rfl rfl rfl (v_pick_t rfl rfl rfl) ?_
            refine wl_nil ?_
            refine wc_cond_t rfl ?_
            refine wc_seq ?_
            refine wc_region ?_
            refine wl_v rfl rfl rfl (v_assign rfl) ?_
            refine wl_v rfl rfl rfl (v_assign rfl) ?_
            refine wl_nil ?_
            refine wc_ret ?_
            first
              | exact ⟨_, res2 rfl rfl rfl, none, 0, by rw [(by_f (fun h => of_ndec c0p h.1)).1, (by_f (fun h => of_ndec c0p h.1)).2]; rfl, by rw [(by_f (fun h => of_ndec c0p h.1)).1]; exact (H19.nilrow 5 1).pm (.cons (.here _ _) (.nil _))⟩
              | (have hbad : ¬ ByOk t := fun h => by
                   have h1 := (h.2 i (by omega)).1 _ (getD_mem (z := mv0) (show j < (t.mv.getD i []).length by omega))
                   unfold okMv at h1
                   omega
                 exact ⟨_, res2 rfl rfl rfl, none, 0, by rw [(by_f hbad).1, (by_f hbad).2]; rfl, by rw [(by_f hbad).1]; exact (H19.nilrow 5 1).pm (.cons (.here _ _) (.nil _))⟩)
              | (have hbad : ¬ ByOk t := fun h => by
                   have h1 := (h.2 i (by omega)).2 _ (getD_mem (z := 0) (show j < (t.go.getD i []).length by omega))
                   unfold okGo at h1
                   omega
                 exact ⟨_, res2 rfl rfl rfl, none, 0, by rw [(by_f hbad).1, (by_f hbad).2]; rfl, by rw [(by_f hbad).1]; exact (H19.nilrow 5 1).pm (.cons (.here _ _) (.nil _))⟩)
              | (have hgood : ByOk t := ⟨⟨r1, r2, r3, r4⟩, hok⟩
                 exact ⟨_, res2 rfl rfl rfl, A4, cz4, by rw [(by_t hgood).1, (by_t hgood).2]; rfl, by rw [(by_t hgood).1]; exact H19.pm (by repeat constructor)⟩)
        · have g59p := of_decide_eq_true g59
          refine wl_off rfl rfl g59 rfl ?_
          refine wl_off rfl rfl g59 rfl ?_
          refine wl_v rfl rfl rfl (v_pick_t rfl g59 rfl) ?_
          refine wl_v rfl rfl rfl (v_move rfl) ?_
          refine wl_off rfl rfl rfl rfl ?_
          refine wl_off rfl rfl rfl rfl ?_
          refine wl_off rfl rfl rfl rfl ?_
          refine wl_v rfl rfl rfl (v_pick_t rfl rfl rfl) ?_
          refine wl_v rfl rfl rfl (v_move rfl) ?_
          refine wl_off rfl rfl rfl rfl ?_
          refine wl_off rfl rfl rfl rfl ?_
          refine wl_off rfl rfl rfl rfl ?_
          refine wl_v rfl rfl rfl (v_pick_t rfl rfl rfl) ?_
          refine wl_nil ?_
          refine wc_cond_t rfl ?_
          refine wc_seq ?_
          refine wc_region ?_
          refine wl_v rfl rfl rfl (v_assign rfl) ?_
          refine wl_v rfl rfl rfl (v_assign rfl) ?_
          refine wl_nil ?_
          refine wc_ret ?_
          first
            | exact ⟨_, res2 rfl rfl rfl, none, 0, by rw [(by_f (fun h => of_ndec c0p h.1)).1, (by_f (fun h => of_ndec c0p h.1)).2]; rfl, by rw [(by_f (fun h => of_ndec c0p h.1)).1]; exact (H19.nilrow 5 1).pm (.cons (.here _ _) (.nil _))⟩
            | (have hbad : ¬ ByOk t := fun h => by
                 have h1 := (h.2 i (by omega)).1 _ (getD_mem (z := mv0) (show j < (t.mv.getD i []).length by omega))
                 unfold okMv at h1
                 omega
               exact ⟨_, res2 rfl rfl rfl, none, 0, by rw [(by_f hbad).1, (by_f hbad).2]; rfl, by rw [(by_f hbad).1]; exact (H19.nilrow 5 1).pm (.cons (.here _ _) (.nil _))⟩)
            | (have hbad : ¬ ByOk t := fun h => by
                 have h1 := (h.2 i (by omega)).2 _ (getD_mem (z := 0) (show j < (t.go.getD i []).length by omega))
                 unfold okGo at h1
                 omega
               exact ⟨_, res2 rfl rfl rfl, none, 0, by rw [(by_f hbad).1, (by_f hbad).2]; rfl, by rw [(by_f hbad).1]; exact (H19.nilrow 5 1).pm (.cons (.here _ _) (.nil _))⟩)
            | (have hgood : ByOk t := ⟨⟨r1, r2, r3, r4⟩, hok⟩
               exact ⟨_, res2 rfl rfl rfl, A4, cz4, by rw [(by_t hgood).1, (by_t hgood).2]; rfl, by rw [(by_t hgood).1]; exact H19.pm (by repeat constructor)⟩)
      · have c2p := of_decide_eq_false c2
        rw [take_all c2p] at H hmk ⊢
        have hrow := hmk
        refine wc_exit ?_
        refine wc_seq ?_
        refine wc_region ?_
        refine wl_v rfl rfl rfl (v_assign rfl) ?_
        refine wl_nil ?_
        refine wc_block ?_
        have hO2 : (headB t ++ rowsB t i ++ mvsB (t.mv.getD i []) ++ gosB ((t.go.getD i []).take 0)) = (headB t ++ rowsB t i ++ mvsB (t.mv.getD i [])) := by simp [gosB]
        refine wc_loop (σ := Nat × Option Addr × Nat) (fun s => [(1, .pointer (some ⟨b1, 0, none⟩)), (4, .slice s.2.1 (headB t ++ rowsB t i ++ mvsB (t.mv.getD i []) ++ gosB ((t.go.getD i []).take s.1)).length s.2.2), (5, .int .i64 i), (8, .int .i64 s.1)]) (fun s W => (s.1 ≤ (t.go.getD i []).length ∧ ∀ x ∈ (t.go.getD i []).take s.1, okGo x) ∧ Holds w [Row (fInt .u8) 5 (.slice s.2.1 (headB t ++ rowsB t i ++ mvsB (t.mv.getD i []) ++ gosB ((t.go.getD i []).take s.1)).length s.2.2) (headB t ++ rowsB t i ++ mvsB (t.mv.getD i []) ++ gosB ((t.go.getD i []).take s.1)), Blk b1 25 [.slice A t.mv.length ca, .slice B t.go.length cb]] W) (fun s => (t.go.getD i []).length - s.1) (0, A4, cz4) (by dsimp only; rw [hO2]; exact (sc rfl (sc rfl (sc rfl (sc rfl (sn _)))))) ⟨⟨Nat.zero_le _, fun m hm => by simp at hm⟩, by dsimp only; rw [hO2]; exact H.pm (by repeat constructor)⟩ ?_
        rintro ⟨j, A4, cz4⟩ W2 ⟨⟨hj, hgk⟩, H⟩
        dsimp only at hj hgk H ⊢
        refine wc_seq ?_
        refine wc_seq ?_
        refine wc_region ?_
        refine wl_v rfl rfl rfl (v_move rfl) ?_
        refine wl_v rfl rfl rfl (v_fb (o2 := 1) fa25_1 rfl rfl) ?_
        refine wl_v rfl rfl rfl (v_load one23 rfl (H.at (by repeat constructor) rfl)) ?_
        refine wl_v rfl rfl rfl (v_move rfl) ?_
        refine wl_v rfl rfl rfl (v_idx Try.underlying23 sz39 hG.ad rfl rfl (by omega) (by omega)) ?_
        obtain ⟨B88, cp88, hc88, hl88, hr88⟩ := hG.atSlN (i := i) (by omega)
        refine wl_v rfl rfl rfl (v_load one39 rfl (H.cell (hc88))) ?_
        refine wl_v rfl rfl rfl (v_len Try.underlying39 rfl) ?_
        refine wl_v rfl rfl rfl (v_lss rfl rfl) ?_
        refine wl_nil ?_
        refine wc_cond rfl (fun c4 => ?_) (fun c4 => ?_)
        · have c4p := of_decide_eq_true c4
          have hl2 := out2 hs r3 (show i < t.mv.length by omega) hok hrow hgk
          refine wc_skip ?_
          refine wc_seq ?_
          refine wc_block ?_
          refine wc_seq ?_
          refine wc_seq ?_
          refine wc_region ?_
          refine wl_v rfl rfl rfl (v_fb (o2 := 1) fa25_1 rfl rfl) ?_
          refine wl_v rfl rfl rfl (v_load one23 rfl (H.at (by repeat constructor) rfl)) ?_
          refine wl_v rfl rfl rfl (v_move rfl) ?_
          refine wl_v rfl rfl rfl (v_idx Try.underlying23 sz39 hG.ad rfl rfl (by omega) (by omega)) ?_
          obtain ⟨B97, cp97, hc97, hl97, hr97⟩ := hG.atSlN (i := i) (by omega)
          refine wl_v rfl rfl rfl (v_load one39 rfl (H.cell (hc97))) ?_
          refine wl_v rfl rfl rfl (v_move rfl) ?_
          refine wl_v rfl rfl rfl (v_idx Try.underlying39 sz3 hr97.ad rfl rfl (by omega) (by omega)) ?_
          refine wl_v rfl rfl rfl (v_load one3 rfl (H.cell (hr97.at1N (i := j) (by omega)))) ?_
          refine wl_v rfl rfl rfl (v_lss rfl rfl) ?_
          refine wl_v rfl rfl rfl (v_move rfl) ?_
          refine wl_guard rfl rfl rfl (fun g102 => ?_) (fun g102 => ?_)
          · have g102p := of_decide_eq_false g102
            refine wl_v rfl rfl rfl (v_fb (o2 := 1) fa25_1 rfl rfl) ?_
            refine wl_on' rfl rfl g102 ?_
            refine wl_v rfl rfl rfl (v_load one23 rfl (H.at (by repeat constructor) rfl)) ?_
            refine wl_on' rfl rfl g102 ?_
            refine wl_v rfl rfl rfl (v_move rfl) ?_
            refine wl_on' rfl rfl g102 ?_
            refine wl_v rfl rfl rfl (v_idx Try.underlying23 sz39 hG.ad rfl rfl (by omega) (by omega)) ?_
            refine wl_on' rfl rfl g102 ?_
            obtain ⟨B107, cp107, hc107, hl107, hr107⟩ := hG.atSlN (i := i) (by omega)
            refine wl_v rfl rfl rfl (v_load one39 rfl (H.cell (hc107))) ?_
            refine wl_on' rfl rfl g102 ?_
            refine wl_v rfl rfl rfl (v_move rfl) ?_
            refine wl_on' rfl rfl g102 ?_
            refine wl_v rfl rfl rfl (v_idx Try.underlying39 sz3 hr107.ad rfl rfl (by omega) (by omega)) ?_
            refine wl_on' rfl rfl g102 ?_
            refine wl_v rfl rfl rfl (v_load one3 rfl (H.cell (hr107.at1N (i := j) (by omega)))) ?_
            refine wl_on' rfl rfl g102 ?_
            refine wl_v rfl rfl rfl (v_geq rfl rfl) ?_
            refine wl_v rfl rfl rfl (v_pick_f rfl g102 rfl) ?_
            refine wl_nil ?_
            refine wc_cond rfl (fun c5 => ?_) (fun c5 => ?_)
            · have c5p := of_decide_eq_true c5
              refine wc_seq ?_
              refine wc_region ?_
              refine wl_v rfl rfl rfl (v_assign rfl) ?_
              refine wl_v rfl rfl rfl (v_assign rfl) ?_
              refine wl_nil ?_
              refine wc_ret ?_
              first
                | exact ⟨_, res2 rfl rfl rfl, none, 0, by rw [(by_f (fun h => of_ndec c0p h.1)).1, (by_f (fun h => of_ndec c0p h.1)).2]; rfl, by rw [(by_f (fun h => of_ndec c0p h.1)).1]; exact (H.nilrow 5 1).pm (.cons (.here _ _) (.nil _))⟩
                | (have hbad : ¬ ByOk t := fun h => by
                     have h1 := (h.2 i (by omega)).1 _ (getD_mem (z := mv0) (show j < (t.mv.getD i []).length by omega))
                     unfold okMv at h1
                     omega
                   exact ⟨_, res2 rfl rfl rfl, none, 0, by rw [(by_f hbad).1, (by_f hbad).2]; rfl, by rw [(by_f hbad).1]; exact (H.nilrow 5 1).pm (.cons (.here _ _) (.nil _))⟩)
                | (have hbad : ¬ ByOk t := fun h => by
                     have h1 := (h.2 i (by omega)).2 _ (getD_mem (z := 0) (show j < (t.go.getD i []).length by omega))
                     unfold okGo at h1
                     omega
                   exact ⟨_, res2 rfl rfl rfl, none, 0, by rw [(by_f hbad).1, (by_f hbad).2]; rfl, by rw [(by_f hbad).1]; exact (H.nilrow 5 1).pm (.cons (.here _ _) (.nil _))⟩)
                | (have hgood : ByOk t := ⟨⟨r1, r2, r3, r4⟩, hok⟩
                   exact ⟨_, res2 rfl rfl rfl, A4, cz4, by rw [(by_t hgood).1, (by_t hgood).2]; rfl, by rw [(by_t hgood).1]; exact H.pm (by repeat constructor)⟩)
            · have c5p := of_decide_eq_false c5
              have hog : okGo ((t.go.getD i []).getD j 0) := ⟨by omega, by omega⟩
              obtain ⟨ho1, ho2⟩ := hog
              have hgk' := take_ok 0 (show j < (t.go.getD i []).length by omega) hgk ⟨ho1, ho2⟩
              have hvx := vint5 (n := ((t.go.getD i []).getD j 0 + 1).toNat) (by omega)
              refine wc_skip ?_
              refine wc_region ?_
              refine wl_v rfl rfl rfl (v_move rfl) ?_
              refine wl_v rfl rfl rfl (v_fb (o2 := 1) fa25_1 rfl rfl) ?_
              refine wl_v rfl rfl rfl (v_load one23 rfl (H.at (by repeat constructor) rfl)) ?_
              refine wl_v rfl rfl rfl (v_move rfl) ?_
              refine wl_v rfl rfl rfl (v_idx Try.underlying23 sz39 hG.ad rfl rfl (by omega) (by omega)) ?_
              obtain ⟨B118, cp118, hc118, hl118, hr118⟩ := hG.atSlN (i := i) (by omega)
              refine wl_v rfl rfl rfl (v_load one39 rfl (H.cell (hc118))) ?_
              refine wl_v rfl rfl rfl (v_move rfl) ?_
              refine wl_v rfl rfl rfl (v_idx Try.underlying39 sz3 hr118.ad rfl rfl (by omega) (by omega)) ?_
              refine wl_v rfl rfl rfl (v_load one3 rfl (H.cell (hr118.at1N (i := j) (by omega)))) ?_
              refine wl_v rfl rfl rfl (v_addi rfl rfl (by omega)) ?_
              refine wl_call en53 rfl rfl (uint_callsI (by omega) (by omega)) ?_
              rintro _ w30 ⟨A123, c123, rfl, Hc⟩
              have H31 := H.call Hc
              refine wl_appR (f := fInt .u8) (xs := (headB t ++ rowsB t i ++ mvsB (t.mv.getD i []) ++ gosB ((t.go.getD i []).take j))) (ys := (vint ((t.go.getD i []).getD j 0 + 1).toNat)) H31 (fun v' => (by repeat constructor)) rfl Try.underlying64 info5 rfl (by decide) rfl rfl (H31.rrd (f := fInt .u8) (e := 5) (A := A123) (xs := (vint ((t.go.getD i []).getD j 0 + 1).toNat)) (by repeat constructor)) (by first | omega | (simp only [List.length_append] at *; omega)) (by decide) ?_
              intro A124 c124 w32 H32 hs32
              refine wl_v rfl rfl rfl (v_assign rfl) ?_
              refine wl_nil ?_
              refine wc_region ?_
              refine wl_v rfl rfl rfl (v_move rfl) ?_
              refine wl_v rfl rfl rfl (v_addi rfl rfl (by omega)) ?_
              refine wl_v rfl rfl rfl (v_assign rfl) ?_
              refine wl_nil ?_
              have e2 : (headB t ++ rowsB t i ++ mvsB (t.mv.getD i []) ++ gosB ((t.go.getD i []).take (j + 1))) = (headB t ++ rowsB t i ++ mvsB (t.mv.getD i []) ++ gosB ((t.go.getD i []).take j)) ++ vint ((t.go.getD i []).getD j 0 + 1).toNat := by rw [gosB_succ (by omega)]; simp only [List.append_assoc]
              exact ⟨(j + 1, A124, c124), by rw [e2]; exact (sc rfl (sc rfl (sc rfl (sc rfl (sn _))))), ⟨⟨by dsimp only; omega, hgk'⟩, by rw [e2]; exact H32.pm (by repeat constructor)⟩, by dsimp only; omega⟩
          · have g102p := of_decide_eq_true g102
            refine wl_off rfl rfl g102 rfl ?_
            refine wl_off rfl rfl g102 rfl ?_
            refine wl_off rfl rfl g102 rfl ?_
            refine wl_off rfl rfl g102 rfl ?_
            refine wl_off rfl rfl g102 rfl ?_
            refine wl_off rfl rfl g102 rfl ?_
            refine wl_off rfl rfl g102 rfl ?_
            refine wl_off rfl rfl g102 rfl ?_
            refine wl_v rfl rfl rfl (v_pick_t rfl g102 rfl) ?_
            refine wl_nil ?_
            refine wc_cond_t rfl ?_
            refine wc_seq ?_
            refine wc_region ?_
            refine wl_v rfl rfl rfl (v_assign rfl) ?_
            refine wl_v rfl rfl rfl (v_assign rfl) ?_
            refine wl_nil ?_
            refine wc_ret ?_
            first
              | exact ⟨_, res2 rfl rfl rfl, none, 0, by rw [(by_f (fun h => of_ndec c0p h.1)).1, (by_f (fun h => of_ndec c0p h.1)).2]; rfl, by rw [(by_f (fun h => of_ndec c0p h.1)).1]; exact (H.nilrow 5 1).pm (.cons (.here _ _) (.nil _))⟩
              | (have hbad : ¬ ByOk t := fun h => by
                   have h1 := (h.2 i (by omega)).1 _ (getD_mem (z := mv0) (show j < (t.mv.getD i []).length by omega))
                   unfold okMv at h1
                   omega
                 exact ⟨_, res2 rfl rfl rfl, none, 0, by rw [(by_f hbad).1, (by_f hbad).2]; rfl, by rw [(by_f hbad).1]; exact (H.nilrow 5 1).pm (.cons (.here _ _) (.nil _))⟩)
              | (have hbad : ¬ ByOk t := fun h => by
                   have h1 := (h.2 i (by omega)).2 _ (getD_mem (z := 0) (show j < (t.go.getD i []).length by omega))
                   unfold okGo at h1
                   omega
                 exact ⟨_, res2 rfl rfl rfl, none, 0, by rw [(by_f hbad).1, (by_f hbad).2]; rfl, by rw [(by_f hbad).1]; exact (H.nilrow 5 1).pm (.cons (.here _ _) (.nil _))⟩)
              | (have hgood : ByOk t := ⟨⟨r1, r2, r3, r4⟩, hok⟩
                 exact ⟨_, res2 rfl rfl rfl, A4, cz4, by rw [(by_t hgood).1, (by_t hgood).2]; rfl, by rw [(by_t hgood).1]; exact H.pm (by repeat constructor)⟩)
        · have c4p := of_decide_eq_false c4
          rw [take_all c4p] at H hgk ⊢
          refine wc_exit ?_
          refine wc_region ?_
          refine wl_v rfl rfl rfl (v_move rfl) ?_
          refine wl_v rfl rfl rfl (v_addi rfl rfl (by omega)) ?_
          refine wl_v rfl rfl rfl (v_assign rfl) ?_
          refine wl_nil ?_
          have e0 : (headB t ++ rowsB t (i + 1)) = (headB t ++ rowsB t i ++ mvsB (t.mv.getD i []) ++ gosB (t.go.getD i [])) := by rw [rowsB_succ]; simp only [List.append_assoc]
          exact ⟨(i + 1, A4, cz4), by rw [e0]; exact (sc rfl (sc rfl (sc rfl (sn _)))), ⟨⟨by dsimp only; omega, upto_succ hok ⟨hrow, hgk⟩⟩, by rw [e0]; exact H.pm (by repeat constructor)⟩, by dsimp only; omega⟩
    · have c1p := of_decide_eq_false c1
      obtain rfl : i = t.mv.length := by omega
      refine wc_exit ?_
      refine wc_seq ?_
      refine wc_region ?_
      refine wl_v rfl rfl rfl (v_move rfl) ?_
      refine wl_v rfl rfl rfl (v_assign rfl) ?_
      refine wl_v rfl rfl rfl (v_assign rfl) ?_
      refine wl_nil ?_
      refine wc_ret ?_
      first
        | exact ⟨_, res2 rfl rfl rfl, none, 0, by rw [(by_f (fun h => of_ndec c0p h.1)).1, (by_f (fun h => of_ndec c0p h.1)).2]; rfl, by rw [(by_f (fun h => of_ndec c0p h.1)).1]; exact (H.nilrow 5 1).pm (.cons (.here _ _) (.nil _))⟩
        | (have hbad : ¬ ByOk t := fun h => by
             have h1 := (h.2 i (by omega)).1 _ (getD_mem (z := mv0) (show j < (t.mv.getD i []).length by omega))
             unfold okMv at h1
             omega
           exact ⟨_, res2 rfl rfl rfl, none, 0, by rw [(by_f hbad).1, (by_f hbad).2]; rfl, by rw [(by_f hbad).1]; exact (H.nilrow 5 1).pm (.cons (.here _ _) (.nil _))⟩)
        | (have hbad : ¬ ByOk t := fun h => by
             have h1 := (h.2 i (by omega)).2 _ (getD_mem (z := 0) (show j < (t.go.getD i []).length by omega))
             unfold okGo at h1
             omega
           exact ⟨_, res2 rfl rfl rfl, none, 0, by rw [(by_f hbad).1, (by_f hbad).2]; rfl, by rw [(by_f hbad).1]; exact (H.nilrow 5 1).pm (.cons (.here _ _) (.nil _))⟩)
        | (have hgood : ByOk t := ⟨⟨r1, r2, r3, r4⟩, hok⟩
           exact ⟨_, res2 rfl rfl rfl, A4, cz4, by rw [(by_t hgood).1, (by_t hgood).2]; rfl, by rw [(by_t hgood).1]; exact H.pm (by repeat constructor)⟩)
end Go.Proofs.Ytkpehkadammppaa.BytesW
