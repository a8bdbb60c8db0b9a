/- Tables written as bytes. The table of one state. Packed tables unpacked: plain definitions. -/
import Derived.Test.YtkpehkadammppaaProg
import Derived.Test.YtkpehkadammppaaK05
import Derived.Test.YtkpehkadammppaaK06
import Derived.Test.YtkpehkadammppaaK07
import Derived.Test.YtkpehkadammppaaK03
set_option linter.unusedVariables false
set_option linter.unusedSimpArgs false
/-! Tables written as bytes. -/
namespace Go.Proofs.Ytkpehkadammppaa.BytesW
open Go Go.RowKit Go.Proofs.YtkpehkadammppaaFx Go.Proofs.Ytkpehkadammppaa.ShortW Go.Proofs.Ytkpehkadammppaa.TabB
theorem agg25 : Agg Try.prog 25 2 := agg_of Try.underlying25 (by kernel_rfl)
theorem agg48 : Agg Try.prog 48 2 := agg_of Try.underlying48 (by kernel_rfl)
theorem en32 : Enters Try.prog 32 := enters Try.func32 (by kernel_rfl) rfl
theorem en34 : Enters Try.prog 34 := enters Try.func34 (by kernel_rfl) rfl
theorem en52 : Enters Try.prog 52 := enters Try.func52 (by kernel_rfl) rfl
theorem en53 : Enters Try.prog 53 := enters Try.func53 (by kernel_rfl) rfl
theorem fa25_0 : FieldAt Try.prog 25 0 0 := field_at (sz := 0) Try.underlying25 rfl (by kernel_rfl) rfl
theorem fa25_1 : FieldAt Try.prog 25 1 1 := field_at (sz := 0) Try.underlying25 rfl (by kernel_rfl) rfl
theorem fa48_0 : FieldAt Try.prog 48 0 0 := field_at (sz := 0) Try.underlying48 rfl (by kernel_rfl) rfl
theorem fa48_1 : FieldAt Try.prog 48 1 1 := field_at (sz := 0) Try.underlying48 rfl (by kernel_rfl) rfl
theorem info5 : (Try.prog.info? 5).map (fun i => (i.zero, i.size, i.bytes)) = some (some (.int .u8 0), 1, 1) := by kernel_rfl
theorem mixed : Try.prog.follows .mixedOrders = true := by kernel_rfl
theorem one22 : One Try.prog 22 := one_of Try.underlying22 rfl (by kernel_rfl)
theorem one23 : One Try.prog 23 := one_of Try.underlying23 rfl (by kernel_rfl)
theorem one3 : One Try.prog 3 := one_of Try.underlying3 rfl (by kernel_rfl)
theorem one38 : One Try.prog 38 := one_of Try.underlying38 rfl (by kernel_rfl)
theorem one39 : One Try.prog 39 := one_of Try.underlying39 rfl (by kernel_rfl)
theorem sz3 : ∀ W, (sizeOf 3).run Try.prog W = .ok 1 W := size_of (by kernel_rfl)
theorem sz38 : ∀ W, (sizeOf 38).run Try.prog W = .ok 1 W := size_of (by kernel_rfl)
theorem sz39 : ∀ W, (sizeOf 39).run Try.prog W = .ok 1 W := size_of (by kernel_rfl)
theorem sz48 : ∀ W, (sizeOf 48).run Try.prog W = .ok 2 W := size_of (by kernel_rfl)
theorem zv48 : ∀ W, (zeroValue 48).run Try.prog W = .ok (.agg #[.int .i64 0, .int .i64 0]) W := zero_of (by kernel_rfl)

set_option maxHeartbeats 1600000 in
set_option maxRecDepth 100000 in
theorem bytes_calls {A B : Option Addr} {ca cb : Nat} {t : Tb} {w : World} (hx : t.rd w A B) (hs : BSm t) :
    Calls Try.prog 27 #[t.val A B ca cb] w fun e w' => ∃ v, e = .returned v ∧ ∃ A' c, v = .tuple #[.slice A' (bytesA t).length c, .int .i64 (bytesE t)] ∧ Holds w [Row (fInt .u8) 5 (.slice A' (bytesA t).length c) (bytesA t)] w' := by
  have hM := hx.m
  have hG := hx.g
  have q1 := hs.ok.m'
  have q2 := hs.ok.g'
  have q3 := hs.m
  refine calls_of Try.func27 rfl Try.ntmps27 rfl ?_
  have H := Holds.start w
  refine wc_seq ?_
  refine wc_region ?_
  refine wl_box (cs := [_, _]) H rfl rfl rfl ?_
  intro b1 w1 hb1 H2
  refine wl_v rfl rfl rfl (v_assign rfl) ?_
  refine wl_v rfl rfl rfl (v_assign rfl) ?_
  refine wl_nil ?_
  refine wc_seq ?_
  refine wc_seq ?_
  refine wc_region ?_
  refine wl_v rfl rfl rfl (v_loadN agg25 rfl rfl (H2.ats (by repeat constructor))) ?_
  refine wl_call en32 rfl rfl (even_calls (hx.below H2.old) hs.ok) ?_
  rintro _ w3 ⟨rfl, Hc⟩
  have H4 := H2.call Hc
  refine wl_v rfl rfl rfl (v_not rfl) ?_
  refine wl_nil ?_
  refine wc_cond rfl (fun c0 => ?_) (fun c0 => ?_)
  · have c0p := of_n_t c0
    refine wc_seq ?_
    refine wc_region ?_
    refine wl_v rfl rfl rfl (v_assign rfl) ?_
    refine wl_v rfl rfl rfl (v_assign rfl) ?_
    refine wl_nil ?_
    refine wc_ret ?_
    first
      | exact ⟨_, res2 rfl rfl rfl, none, 0, by rw [(by_f (fun h => of_ndec c0p h.1)).1, (by_f (fun h => of_ndec c0p h.1)).2]; rfl, by rw [(by_f (fun h => of_ndec c0p h.1)).1]; exact (H4.nilrow 5 1).pm (.cons (.here _ _) (.nil _))⟩
      | (have hbad : ¬ ByOk t := fun h => by
           have h1 := (h.2 i (by omega)).1 _ (getD_mem (z := mv0) (show j < (t.mv.getD i []).length by omega))
           unfold okMv at h1
           omega
         exact ⟨_, res2 rfl rfl rfl, none, 0, by rw [(by_f hbad).1, (by_f hbad).2]; rfl, by rw [(by_f hbad).1]; exact (H4.nilrow 5 1).pm (.cons (.here _ _) (.nil _))⟩)
      | (have hbad : ¬ ByOk t := fun h => by
           have h1 := (h.2 i (by omega)).2 _ (getD_mem (z := 0) (show j < (t.go.getD i []).length by omega))
           unfold okGo at h1
           omega
         exact ⟨_, res2 rfl rfl rfl, none, 0, by rw [(by_f hbad).1, (by_f hbad).2]; rfl, by rw [(by_f hbad).1]; exact (H4.nilrow 5 1).pm (.cons (.here _ _) (.nil _))⟩)
      | (have hgood : ByOk t := ⟨⟨r1, r2, r3, r4⟩, hok⟩
         exact ⟨_, res2 rfl rfl rfl, A4, cz4, by rw [(by_t hgood).1, (by_t hgood).2]; rfl, by rw [(by_t hgood).1]; exact H4.pm (by repeat constructor)⟩)
  · have c0p := of_n_f c0
    have hR := of_dec c0p
    obtain ⟨r1, r2, r3, r4⟩ := hR
    have r5 := hs.ml (i := 0) r1
    have r6 := hs.gl (i := 0) (by omega)
    have hv1 := vint5 (n := t.mv.length) (by omega)
    have hv2 := vint5 (n := (t.mv.getD 0 []).length) (by omega)
    have hv3 := vint5 (n := (t.go.getD 0 []).length) (by omega)
    refine wc_skip ?_
    refine wc_seq ?_
    refine wc_region ?_
    refine wl_v rfl rfl rfl (v_fb (o2 := 0) fa25_0 rfl rfl) ?_
    refine wl_v rfl rfl rfl (v_load one22 rfl (H4.at (by repeat constructor) rfl)) ?_
    refine wl_v rfl rfl rfl (v_len Try.underlying22 rfl) ?_
    refine wl_call en52 rfl rfl (by have hq := short_calls (n := t.mv.length) (xs := []) (LL := fun v x => [Row (fInt .u8) 5 v x, Blk b1 25 [.slice A t.mv.length ca, .slice B t.go.length cb]]) (fun v x v' y => .here _ _ _) (H4.nilrow 5 1) (by simp only [List.length_append, List.length_nil]; omega) (by omega); exact hq) ?_
    rintro _ w5 ⟨A17, c17, rfl, Hc⟩
    have H6 := Hc
    refine wl_v rfl rfl rfl (v_assign rfl) ?_
    refine wl_nil ?_
    refine wc_seq ?_
    refine wc_region ?_
    refine wl_v rfl rfl rfl (v_move rfl) ?_
    refine wl_v rfl rfl rfl (v_fb (o2 := 0) fa25_0 rfl rfl) ?_
    refine wl_v rfl rfl rfl (v_load one22 rfl (H6.at (by repeat constructor) rfl)) ?_
    refine wl_v rfl rfl rfl (v_idx Try.underlying22 sz38 hM.ad rfl rfl (by omega) (by omega)) ?_
    obtain ⟨B22, cp22, hc22, hl22, hr22⟩ := hM.atSlN (i := 0) (by omega)
    refine wl_v rfl rfl rfl (v_load one38 rfl (H6.cell (hc22))) ?_
    refine wl_v rfl rfl rfl (v_len Try.underlying38 rfl) ?_
    refine wl_call en52 rfl rfl (by have hq := short_calls (n := (t.mv.getD 0 []).length) (xs := ([] ++ vint t.mv.length)) (LL := fun v x => [Row (fInt .u8) 5 v x, Blk b1 25 [.slice A t.mv.length ca, .slice B t.go.length cb]]) (fun v x v' y => .here _ _ _) H6 (by simp only [List.length_append, List.length_nil]; omega) (by omega); exact hq) ?_
    rintro _ w7 ⟨A24, c24, rfl, Hc⟩
    have H8 := Hc
    refine wl_v rfl rfl rfl (v_assign rfl) ?_
    refine wl_nil ?_
    refine wc_seq ?_
    refine wc_region ?_
    refine wl_v rfl rfl rfl (v_move rfl) ?_
    refine wl_v rfl rfl rfl (v_fb (o2 := 1) fa25_1 rfl rfl) ?_
    refine wl_v rfl rfl rfl (v_load one23 rfl (H8.at (by repeat constructor) rfl)) ?_
    refine wl_v rfl rfl rfl (v_idx Try.underlying23 sz39 hG.ad rfl rfl (by omega) (by omega)) ?_
    obtain ⟨B29, cp29, hc29, hl29, hr29⟩ := hG.atSlN (i := 0) (by omega)
    refine wl_v rfl rfl rfl (v_load one39 rfl (H8.cell (hc29))) ?_
    refine wl_v rfl rfl rfl (v_len Try.underlying39 rfl) ?_
    refine wl_call en52 rfl rfl (by have hq := short_calls (n := (t.go.getD 0 []).length) (xs := ([] ++ vint t.mv.length ++ vint (t.mv.getD 0 []).length)) (LL := fun v x => [Row (fInt .u8) 5 v x, Blk b1 25 [.slice A t.mv.length ca, .slice B t.go.length cb]]) (fun v x v' y => .here _ _ _) H8 (by simp only [List.length_append, List.length_nil]; omega) (by omega); exact hq) ?_
    rintro _ w9 ⟨A31, c31, rfl, Hc⟩
    have H10 := Hc
    refine wl_v rfl rfl rfl (v_assign rfl) ?_
    refine wl_nil ?_
    refine wc_seq ?_
    refine wc_seq ?_
    refine wc_region ?_
    refine wl_v rfl rfl rfl (v_fb (o2 := 0) fa25_0 rfl rfl) ?_
    refine wl_v rfl rfl rfl (v_load one22 rfl (H10.at (by repeat constructor) rfl)) ?_
    refine wl_v rfl rfl rfl (v_len Try.underlying22 rfl) ?_
    refine wl_v rfl rfl rfl (v_move rfl) ?_
    refine wl_nil ?_
    refine wc_block ?_
    have hO0 : (headB t ++ rowsB t 0) = ([] ++ vint t.mv.length ++ vint (t.mv.getD 0 []).length ++ vint (t.go.getD 0 []).length) := by simp [headB, rowsB]
    refine wc_loop (σ := Nat × Option Addr × Nat) (fun s => [(1, .pointer (some ⟨b1, 0, none⟩)), (4, .slice s.2.1 (headB t ++ rowsB t s.1).length s.2.2), (33, .slice A t.mv.length ca), (34, .int .i64 t.mv.length), (35, .int .i64 s.1)]) (fun s W => (s.1 ≤ t.mv.length ∧ ∀ q, q < s.1 → RowOk2 t q) ∧ Holds w [Row (fInt .u8) 5 (.slice s.2.1 (headB t ++ rowsB t s.1).length s.2.2) (headB t ++ rowsB t s.1), Blk b1 25 [.slice A t.mv.length ca, .slice B t.go.length cb]] W) (fun s => t.mv.length - s.1) (0, A31, c31) (by dsimp only; rw [hO0]; exact (sc rfl (sc rfl (sc rfl (sc rfl (sc rfl (sn _))))))) ⟨⟨Nat.zero_le _, upto_zero⟩, by dsimp only; rw [hO0]; exact H10.pm (by repeat constructor)⟩ ?_
    rintro ⟨i, A4, cz4⟩ W0 ⟨⟨hi, hok⟩, H⟩
    dsimp only at hi hok H ⊢
    refine wc_seq ?_
    refine wc_region ?_
    refine wl_v rfl rfl rfl (v_lss rfl rfl) ?_
    refine wl_nil ?_
    refine wc_seq ?_
    refine wc_cond rfl (fun c1 => ?_) (fun c1 => ?_)
    · have c1p := of_decide_eq_true c1
      have hrl := hs.ml (i := i) (by omega)
      have hgl := hs.gl (i := i) (by omega)
      have ho0 := out0 hs r3 r1 hi hok
      refine wc_skip ?_
      refine wc_seq ?_
      refine wc_block ?_
      refine wc_seq ?_
      refine wc_region ?_
      refine wl_v rfl rfl rfl (v_move rfl) ?_
      refine wl_v rfl rfl rfl (v_idx Try.underlying22 sz38 hM.ad rfl rfl (by omega) (by omega)) ?_
      obtain ⟨B39, cp39, hc39, hl39, hr39⟩ := hM.atSlN (i := i) (by omega)
      refine wl_v rfl rfl rfl (v_load one38 rfl (H.cell (hc39))) ?_
      refine wl_v rfl rfl rfl (v_assign rfl) ?_
      refine wl_v rfl rfl rfl (v_assign rfl) ?_
      refine wl_nil ?_
      refine wc_seq ?_
      refine wc_seq ?_
      refine wc_region ?_
      refine wl_v rfl rfl rfl (v_move rfl) ?_
      refine wl_v rfl rfl rfl (v_len Try.underlying38 rfl) ?_
      refine wl_v rfl rfl rfl (v_move rfl) ?_
      refine wl_nil ?_
      refine wc_block ?_
      have hO1 : (headB t ++ rowsB t i ++ mvsB ((t.mv.getD i []).take 0)) = (headB t ++ rowsB t i) := by simp [mvsB]
      refine wc_loop (σ := Nat × Option Addr × Nat) (fun s => [(1, .pointer (some ⟨b1, 0, none⟩)), (4, .slice s.2.1 (headB t ++ rowsB t i ++ mvsB ((t.mv.getD i []).take s.1)).length s.2.2), (5, .int .i64 i), (33, .slice A t.mv.length ca), (34, .int .i64 t.mv.length), (35, .int .i64 i), (40, .slice B39 (t.mv.getD i []).length cp39), (41, .int .i64 (t.mv.getD i []).length), (42, .int .i64 s.1)]) (fun s W => (s.1 ≤ (t.mv.getD i []).length ∧ ∀ m ∈ (t.mv.getD i []).take s.1, okMv m) ∧ Holds w [Row (fInt .u8) 5 (.slice s.2.1 (headB t ++ rowsB t i ++ mvsB ((t.mv.getD i []).take s.1)).length s.2.2) (headB t ++ rowsB t i ++ mvsB ((t.mv.getD i []).take s.1)), Blk b1 25 [.slice A t.mv.length ca, .slice B t.go.length cb]] W) (fun s => (t.mv.getD i []).length - s.1) (0, A4, cz4) (by dsimp only; rw [hO1]; exact (sc rfl (sc rfl (sc rfl (sc rfl (sc rfl (sc rfl (sc rfl (sc rfl (sc rfl (sn _))))))))))) ⟨⟨Nat.zero_le _, fun m hm => by simp at hm⟩, by dsimp only; rw [hO1]; exact H.pm (by repeat constructor)⟩ ?_
      rintro ⟨j, A4, cz4⟩ W1 ⟨⟨hj, hmk⟩, H⟩
      dsimp only at hj hmk H ⊢
      refine wc_seq ?_
      refine wc_region ?_
      refine wl_v rfl rfl rfl (v_lss rfl rfl) ?_
      refine wl_nil ?_
      refine wc_seq ?_
      refine wc_cond rfl (fun c2 => ?_) (fun c2 => ?_)
      · have c2p := of_decide_eq_true c2
        have hl1 := out1 hs r3 (show i < t.mv.length by omega) hok hmk
        refine wc_skip ?_
        refine wc_seq ?_
        refine wc_block ?_
        refine wc_seq ?_
        refine wc_region ?_
        refine wl_v rfl rfl rfl (v_idx Try.underlying38 sz48 hr39.ad rfl rfl (by omega) (by omega)) ?_
        refine wl_v rfl rfl rfl (v_loadN (cs := fMv.enc _) agg48 rfl rfl (fun k u hu => H.cell (hr39.atN (i := j) (k := k) mv0 (by omega) hu))) ?_
        refine wl_alloc (cs := [.int .i64 0, .int .i64 0]) H rfl zv48 rfl ?_
        intro b8 w11 hb8 H12
        refine wl_store (vs := [_, _]) H12 (by repeat constructor) sz48 rfl rfl rfl rfl rfl (by repeat constructor) ?_
        intro w13 H14 hw13
        refine wl_nil ?_
        refine wc_seq ?_
        refine wc_seq ?_
        refine wc_region ?_
        refine wl_v rfl rfl rfl (v_fb (o2 := 0) fa48_0 rfl rfl) ?_
        refine wl_v rfl rfl rfl (v_load one3 rfl (H14.at (by repeat constructor) rfl)) ?_
        refine wl_v rfl rfl rfl (v_lss rfl rfl) ?_
        refine wl_v rfl rfl rfl (v_move rfl) ?_
        refine wl_guard rfl rfl rfl (fun g49 => ?_) (fun g49 => ?_)
        · have g49p := of_decide_eq_false g49
          refine wl_v rfl rfl rfl (v_fb (o2 := 0) fa48_0 rfl rfl) ?_
          refine wl_on' rfl rfl g49 ?_
          refine wl_v rfl rfl rfl (v_load one3 rfl (H14.at (by repeat constructor) rfl)) ?_
          refine wl_on' rfl rfl g49 ?_
          refine wl_v rfl rfl rfl (v_gtr rfl rfl) ?_
          refine wl_v rfl rfl rfl (v_pick_f rfl g49 rfl) ?_
          refine wl_v rfl rfl rfl (v_move rfl) ?_
          refine wl_guard rfl rfl rfl (fun g54 => ?_) (fun g54 => ?_)
          · have g54p := of_decide_eq_false g54
            refine wl_v rfl rfl rfl (v_fb (o2 := 1) fa48_1 rfl rfl) ?_
            refine wl_on' rfl rfl g54 ?_
            refine wl_v rfl rfl rfl (v_load one3 rfl (H14.at (by repeat constructor) rfl)) ?_
            refine wl_on' rfl rfl g54 ?_
            refine wl_v rfl rfl rfl (v_lss rfl rfl) ?_
            refine wl_v rfl rfl rfl (v_pick_f rfl g54 rfl) ?_
            refine wl_v rfl rfl rfl (v_move rfl) ?_
            refine wl_guard rfl rfl rfl (fun g59 => ?_) (fun g59 => ?_)
            · have g59p := of_decide_eq_false g59
              refine wl_v rfl rfl rfl (v_fb (o2 := 1) fa48_1 rfl rfl) ?_
              refine wl_on' rfl rfl g59 ?_
              refine wl_v rfl rfl rfl (v_load one3 rfl (H14.at (by repeat constructor) rfl)) ?_
              refine wl_on' rfl rfl g59 ?_
              refine wl_v rfl rfl rfl (v_gtr rfl rfl) ?_
              refine wl_v rfl rfl rfl (v_pick_f rfl g59 rfl) ?_
              refine wl_nil ?_
              refine wc_cond rfl (fun c3 => ?_) (fun c3 => ?_)
              · have c3p := of_decide_eq_true c3
                refine wc_seq ?_
                refine wc_region ?_
                refine wl_v rfl rfl rfl (v_assign rfl) ?_
                refine wl_v rfl rfl rfl (v_assign rfl) ?_
                refine wl_nil ?_
                refine wc_ret ?_
                first
                  | exact ⟨_, res2 rfl rfl rfl, none, 0, by rw [(by_f (fun h => of_ndec c0p h.1)).1, (by_f (fun h => of_ndec c0p h.1)).2]; rfl, by rw [(by_f (fun h => of_ndec c0p h.1)).1]; exact (H14.nilrow 5 1).pm (.cons (.here _ _) (.nil _))⟩
                  | (have hbad : ¬ ByOk t := fun h => by
                       have h1 := (h.2 i (by omega)).1 _ (getD_mem (z := mv0) (show j < (t.mv.getD i []).length by omega))
                       unfold okMv at h1
                       omega
                     exact ⟨_, res2 rfl rfl rfl, none, 0, by rw [(by_f hbad).1, (by_f hbad).2]; rfl, by rw [(by_f hbad).1]; exact (H14.nilrow 5 1).pm (.cons (.here _ _) (.nil _))⟩)
                  | (have hbad : ¬ ByOk t := fun h => by
                       have h1 := (h.2 i (by omega)).2 _ (getD_mem (z := 0) (show j < (t.go.getD i []).length by omega))
                       unfold okGo at h1
                       omega
                     exact ⟨_, res2 rfl rfl rfl, none, 0, by rw [(by_f hbad).1, (by_f hbad).2]; rfl, by rw [(by_f hbad).1]; exact (H14.nilrow 5 1).pm (.cons (.here _ _) (.nil _))⟩)
                  | (have hgood : ByOk t := ⟨⟨r1, r2, r3, r4⟩, hok⟩
                     exact ⟨_, res2 rfl rfl rfl, A4, cz4, by rw [(by_t hgood).1, (by_t hgood).2]; rfl, by rw [(by_t hgood).1]; exact H14.pm (by repeat constructor)⟩)
              · have c3p := of_decide_eq_false c3
                have hom : okMv ((t.mv.getD i []).getD j mv0) := ⟨by omega, by omega, by omega, by omega⟩
                obtain ⟨ho1, ho2, ho3, ho4⟩ := hom
                have hmk' := take_ok mv0 (show j < (t.mv.getD i []).length by omega) hmk ⟨ho1, ho2, ho3, ho4⟩
                have hvd := vint5 (n := ((t.mv.getD i []).getD j mv0).d.toNat) (by omega)
                have hvn := vint5 (n := ((t.mv.getD i []).getD j mv0).n.toNat) (by omega)
                refine wc_skip ?_
                refine wc_tree [0, 1, 2, 4, 5, 7] (fun W => Holds w [Blk b8 48 [.int .i64 ((t.mv.getD i []).getD j mv0).d, .int .i64 ((t.mv.getD i []).getD j mv0).n]] W) mixed ?_
                have Hd := H14.drew
                have HSd : Holds w [Blk b8 48 [.int .i64 ((t.mv.getD i []).getD j mv0).d, .int .i64 ((t.mv.getD i []).getD j mv0).n]] _ := Hd.pm (by repeat constructor)
                refine wj_v (k := 0) rfl (by kernel_rfl) (fun _ _ _ h => h) HSd rfl rfl rfl (fun W HW => v_move rfl) ?_
                refine wj_v (k := 1) rfl (by kernel_rfl) (fun _ _ _ h => h) HSd rfl rfl rfl (fun W HW => v_fb (o2 := 0) fa48_0 rfl rfl) ?_
                refine wj_v (k := 2) rfl (by kernel_rfl) (fun _ _ _ h => h) HSd rfl rfl rfl (fun W HW => v_load one3 rfl (HW.at (by repeat constructor) rfl)) ?_
                refine wj_v (k := 4) rfl (by kernel_rfl) (fun _ _ _ h => h) HSd rfl rfl rfl (fun W HW => v_fb (o2 := 1) fa48_1 rfl rfl) ?_
                refine wj_v (k := 5) rfl (by kernel_rfl) (fun _ _ _ h => h) HSd rfl rfl rfl (fun W HW => v_load one3 rfl (HW.at (by repeat constructor) rfl)) ?_
                refine wj_t (k := 3) rfl (by kernel_rfl) ?_
                refine wl_call en52 rfl rfl (by have hq := short_calls (n := ((t.mv.getD i []).getD j mv0).d.toNat) (xs := (headB t ++ rowsB t i ++ mvsB ((t.mv.getD i []).take j))) (LL := fun v x => [Blk b8 48 [.int .i64 ((t.mv.getD i []).getD j mv0).d, .int .i64 ((t.mv.getD i []).getD j mv0).n], Row (fInt .u8) 5 v x, Blk b1 25 [.slice A t.mv.length ca, .slice B t.go.length cb]]) (fun v x v' y => .there _ (.here _ _ _)) Hd (by rw [List.length_append]; omega) (by omega); rw [Int.toNat_of_nonneg (by omega)] at hq; exact hq) ?_
                rintro _ w15 ⟨A67, c67, rfl, Hc⟩
                have H16 := Hc
                have HS17 : Holds w [Blk b8 48 [.int .i64 ((t.mv.getD i []).getD j mv0).d, .int .i64 ((t.mv.getD i []).getD j mv0).n]] _ := H16.pm (by repeat constructor)
                refine wl_nil (tn ⟨fun _ => HS17, ?_⟩)
                refine wj_t (k := 6) rfl (by kernel_rfl) ?_
                refine wl_call en52 rfl rfl (by have hq := short_calls (n := ((t.mv.getD i []).getD j mv0).n.toNat) (xs := ((headB t ++ rowsB t i ++ mvsB ((t.mv.getD i []).take j)) ++ vint ((t.mv.getD i []).getD j mv0).d.toNat)) (LL := fun v x => [Blk b8 48 [.int .i64 ((t.mv.getD i []).getD j mv0).d, .int .i64 ((t.mv.getD i []).getD j mv0).n], Row (fInt .u8) 5 v x, Blk b1 25 [.slice A t.mv.length ca, .slice B t.go.length cb]]) (fun v x v' y => .there _ (.here _ _ _)) H16 (by rw [List.length_append, List.length_append]; omega) (by omega); rw [Int.toNat_of_nonneg (by omega)] at hq; exact hq) ?_
                rintro _ w18 ⟨A70, c70, rfl, Hc⟩
                have H19 := Hc
                have HS20 : Holds w [Blk b8 48 [.int .i64 ((t.mv.getD i []).getD j mv0).d, .int .i64 ((t.mv.getD i []).getD j mv0).n]] _ := H19.pm (by repeat constructor)
                refine wl_nil (tn ⟨fun _ => HS20, ?_⟩)
                refine wj_v (k := 7) rfl (by kernel_rfl) (fun _ _ _ h => h) HS20 rfl rfl rfl (fun W HW => v_assign rfl) ?_
                refine wj_done (by kernel_rfl) ?_
                refine wc_region ?_
                refine wl_v rfl rfl rfl (v_addi rfl rfl (by omega)) ?_
                refine wl_v rfl rfl rfl (v_move rfl) ?_
                refine wl_nil ?_
                have e1 : (headB t ++ rowsB t i ++ mvsB ((t.mv.getD i []).take (j + 1))) = (headB t ++ rowsB t i ++ mvsB ((t.mv.getD i []).take j)) ++ vint ((t.mv.getD i []).getD j mv0).d.toNat ++ vint ((t.mv.getD i []).getD j mv0).n.toNat := by rw [mvsB_succ (by omega)]; simp only [List.append_assoc]
                exact ⟨(j + 1, A70, c70), by rw [e1]; exact (sc rfl (sc rfl (sc rfl (sc rfl (sc rfl (sc rfl (sc rfl (sc rfl (sc rfl (sn _)))))))))), ⟨⟨by dsimp only; omega, hmk'⟩, by rw [e1]; exact H19.pm (by repeat constructor)⟩, by dsimp only; omega⟩
            · have g59p := of_decide_eq_true g59
              refine wl_off rfl rfl g59 rfl ?_
              refine wl_off rfl rfl g59 rfl ?_
              refine wl_v rfl rfl rfl (v_pick_t rfl g59 rfl) ?_
              refine wl_nil ?_
              refine wc_cond_t rfl ?_
              refine wc_seq ?_
              refine wc_region ?_
              refine wl_v rfl rfl rfl (v_assign rfl) ?_
              refine wl_v rfl rfl rfl (v_assign rfl) ?_
              refine wl_nil ?_
              refine wc_ret ?_
              first
                | exact ⟨_, res2 rfl rfl rfl, none, 0, by rw [(by_f (fun h => of_ndec c0p h.1)).1, (by_f (fun h => of_ndec c0p h.1)).2]; rfl, by rw [(by_f (fun h => of_ndec c0p h.1)).1]; exact (H14.nilrow 5 1).pm (.cons (.here _ _) (.nil _))⟩
                | (have hbad : ¬ ByOk t := fun h => by
                     have h1 := (h.2 i (by omega)).1 _ (getD_mem (z := mv0) (show j < (t.mv.getD i []).length by omega))
                     unfold okMv at h1
                     omega
                   exact ⟨_, res2 rfl rfl rfl, none, 0, by rw [(by_f hbad).1, (by_f hbad).2]; rfl, by rw [(by_f hbad).1]; exact (H14.nilrow 5 1).pm (.cons (.here _ _) (.nil _))⟩)
                | (have hbad : ¬ ByOk t := fun h => by
                     have h1 := (h.2 i (by omega)).2 _ (getD_mem (z := 0) (show j < (t.go.getD i []).length by omega))
                     unfold okGo at h1
                     omega
                   exact ⟨_, res2 rfl rfl rfl, none, 0, by rw [(by_f hbad).1, (by_f hbad).2]; rfl, by rw [(by_f hbad).1]; exact (H14.nilrow 5 1).pm (.cons (.here _ _) (.nil _))⟩)
                | (have hgood : ByOk t := ⟨⟨r1, r2, r3, r4⟩, hok⟩
                   exact ⟨_, res2 rfl rfl rfl, A4, cz4, by rw [(by_t hgood).1, (by_t hgood).2]; rfl, by rw [(by_t hgood).1]; exact H14.pm (by repeat constructor)⟩)
          · have g54p := of_decide_eq_true g54
            refine wl_off rfl rfl g54 rfl ?_
            refine wl_off rfl rfl g54 rfl ?_
            refine wl_v rfl rfl rfl (v_pick_t rfl g54 rfl) ?_
            refine wl_v rfl rfl rfl (v_move rfl) ?_
            refine wl_off rfl rfl rfl rfl ?_
            refine wl_off rfl rfl rfl rfl ?_
            refine wl_off rfl rfl rfl rfl ?_
            refine wl_v rfl rfl rfl (v_pick_t rfl rfl rfl) ?_
            refine wl_nil ?_
            refine wc_cond_t rfl ?_
            refine wc_seq ?_
            refine wc_region ?_
            refine wl_v rfl rfl rfl (v_assign rfl) ?_
            refine wl_v rfl rfl rfl (v_assign rfl) ?_
            refine wl_nil ?_
            refine wc_ret ?_
            first
              | exact ⟨_, res2 rfl rfl rfl, none, 0, by rw [(by_f (fun h => of_ndec c0p h.1)).1, (by_f (fun h => of_ndec c0p h.1)).2]; rfl, by rw [(by_f (fun h => of_ndec c0p h.1)).1]; exact (H14.nilrow 5 1).pm (.cons (.here _ _) (.nil _))⟩
              | (have hbad : ¬ ByOk t := fun h => by
                   have h1 := (h.2 i (by omega)).1 _ (getD_mem (z := mv0) (show j < (t.mv.getD i []).length by omega))
                   unfold okMv at h1
                   omega
                 exact ⟨_, res2 rfl rfl rfl, none, 0, by rw [(by_f hbad).1, (by_f hbad).2]; rfl, by rw [(by_f hbad).1]; exact (H14.nilrow 5 1).pm (.cons (.here _ _) (.nil _))⟩)
              | (have hbad : ¬ ByOk t := fun h => by
                   have h1 := (h.2 i (by omega)).2 _ (getD_mem (z := 0) (show j < (t.go.getD i []).length by omega))
                   unfold okGo at h1
                   omega
                 exact ⟨_, res2 rfl rfl rfl, none, 0, by rw [(by_f hbad).1, (by_f hbad).2]; rfl, by rw [(by_f hbad).1]; exact (H14.nilrow 5 1).pm (.cons (.here _ _) (.nil _))⟩)
              | (have hgood : ByOk t := ⟨⟨r1, r2, r3, r4⟩, hok⟩
                 exact ⟨_, res2 rfl rfl rfl, A4, cz4, by rw [(by_t hgood).1, (by_t hgood).2]; rfl, by rw [(by_t hgood).1]; exact H14.pm (by repeat constructor)⟩)
        · have g49p := of_decide_eq_true g49
          refine wl_off rfl rfl g49 rfl ?_
          refine wl_off rfl rfl g49 rfl ?_
          refine wl_v rfl rfl rfl (v_pick_t rfl g49 rfl) ?_
          refine wl_v rfl rfl rfl (v_move rfl) ?_
          refine wl_off rfl rfl rfl rfl ?_
          refine wl_off rfl rfl rfl rfl ?_
          refine wl_off rfl rfl rfl rfl ?_
          refine wl_v rfl rfl rfl (v_pick_t rfl rfl rfl) ?_
          refine wl_v rfl rfl rfl (v_move rfl) ?_
          refine wl_off rfl rfl rfl rfl ?_
          refine wl_off rfl rfl rfl rfl ?_
          refine wl_off rfl rfl rfl rfl ?_
          refine wl_v rfl rfl rfl (v_pick_t rfl rfl rfl) ?_
          refine wl_nil ?_
          refine wc_cond_t rfl ?_
          refine wc_seq ?_
          refine wc_region ?_
          refine wl_v rfl rfl rfl (v_assign rfl) ?_
          refine wl_v rfl rfl rfl (v_assign rfl) ?_
          refine wl_nil ?_
          refine wc_ret ?_
          first
            | exact ⟨_, res2 rfl rfl rfl, none, 0, by rw [(by_f (fun h => of_ndec c0p h.1)).1, (by_f (fun h => of_ndec c0p h.1)).2]; rfl, by rw [(by_f (fun h => of_ndec c0p h.1)).1]; exact (H14.nilrow 5 1).pm (.cons (.here _ _) (.nil _))⟩
            | (have hbad : ¬ ByOk t := fun h => by
                 have h1 := (h.2 i (by omega)).1 _ (getD_mem (z := mv0) (show j < (t.mv.getD i []).length by omega))
                 unfold okMv at h1
                 omega
               exact ⟨_, res2 rfl rfl rfl, none, 0, by rw [(by_f hbad).1, (by_f hbad).2]; rfl, by rw [(by_f hbad).1]; exact (H14.nilrow 5 1).pm (.cons (.here _ _) (.nil _))⟩)
            | (have hbad : ¬ ByOk t := fun h => by
                 have h1 := (h.2 i (by omega)).2 _ (getD_mem (z := 0) (show j < (t.go.getD i []).length by omega))
                 unfold okGo at h1
                 omega
               exact ⟨_, res2 rfl rfl rfl, none, 0, by rw [(by_f hbad).1, (by_f hbad).2]; rfl, by rw [(by_f hbad).1]; exact (H14.nilrow 5 1).pm (.cons (.here _ _) (.nil _))⟩)
            | (have hgood : ByOk t := ⟨⟨r1, r2, r3, r4⟩, hok⟩
               exact ⟨_, res2 rfl rfl rfl, A4, cz4, by rw [(by_t hgood).1, (by_t hgood).2]; rfl, by rw [(by_t hgood).1]; exact H14.pm (by repeat constructor)⟩)
      · have c2p := of_decide_eq_false c2
        rw [take_all c2p] at H hmk ⊢
        have hrow := hmk
        refine wc_exit ?_
        refine wc_seq ?_
        refine wc_region ?_
        refine wl_v rfl rfl rfl (v_fb (o2 := 1) fa25_1 rfl rfl) ?_
        refine wl_v rfl rfl rfl (v_load one23 rfl (H.at (by repeat constructor) rfl)) ?_
        refine wl_v rfl rfl rfl (v_move rfl) ?_
        refine wl_v rfl rfl rfl (v_idx Try.underlying23 sz39 hG.ad rfl rfl (by omega) (by omega)) ?_
        obtain ⟨B76, cp76, hc76, hl76, hr76⟩ := hG.atSlN (i := i) (by omega)
        refine wl_v rfl rfl rfl (v_load one39 rfl (H.cell (hc76))) ?_
        refine wl_v rfl rfl rfl (v_len Try.underlying39 rfl) ?_
        refine wl_v rfl rfl rfl (v_move rfl) ?_
        refine wl_nil ?_
        refine wc_block ?_
        have hO2 : (headB t ++ rowsB t i ++ mvsB (t.mv.getD i []) ++ gosB ((t.go.getD i []).take 0)) = (headB t ++ rowsB t i ++ mvsB (t.mv.getD i [])) := by simp [gosB]
        refine wc_loop (σ := Nat × Option Addr × Nat) (fun s => [(1, .pointer (some ⟨b1, 0, none⟩)), (4, .slice s.2.1 (headB t ++ rowsB t i ++ mvsB (t.mv.getD i []) ++ gosB ((t.go.getD i []).take s.1)).length s.2.2), (33, .slice A t.mv.length ca), (34, .int .i64 t.mv.length), (35, .int .i64 i), (76, .slice B76 (t.go.getD i []).length cp76), (77, .int .i64 (t.go.getD i []).length), (78, .int .i64 s.1)]) (fun s W => (s.1 ≤ (t.go.getD i []).length ∧ ∀ x ∈ (t.go.getD i []).take s.1, okGo x) ∧ Holds w [Row (fInt .u8) 5 (.slice s.2.1 (headB t ++ rowsB t i ++ mvsB (t.mv.getD i []) ++ gosB ((t.go.getD i []).take s.1)).length s.2.2) (headB t ++ rowsB t i ++ mvsB (t.mv.getD i []) ++ gosB ((t.go.getD i []).take s.1)), Blk b1 25 [.slice A t.mv.length ca, .slice B t.go.length cb]] W) (fun s => (t.go.getD i []).length - s.1) (0, A4, cz4) (by dsimp only; rw [hO2]; exact (sc rfl (sc rfl (sc rfl (sc rfl (sc rfl (sc rfl (sc rfl (sc rfl (sn _)))))))))) ⟨⟨Nat.zero_le _, fun m hm => by simp at hm⟩, by dsimp only; rw [hO2]; exact H.pm (by repeat constructor)⟩ ?_
        rintro ⟨j, A4, cz4⟩ W2 ⟨⟨hj, hgk⟩, H⟩
        dsimp only at hj hgk H ⊢
        refine wc_seq ?_
        refine wc_region ?_
        refine wl_v rfl rfl rfl (v_lss rfl rfl) ?_
        refine wl_nil ?_
        refine wc_seq ?_
        refine wc_cond rfl (fun c4 => ?_) (fun c4 => ?_)
        · have c4p := of_decide_eq_true c4
          have hl2 := out2 hs r3 (show i < t.mv.length by omega) hok hrow hgk
          refine wc_skip ?_
          refine wc_seq ?_
          refine wc_block ?_
          refine wc_seq ?_
          refine wc_region ?_
          refine wl_v rfl rfl rfl (v_idx Try.underlying39 sz3 hr76.ad rfl rfl (by omega) (by omega)) ?_
          refine wl_v rfl rfl rfl (v_load one3 rfl (H.cell (hr76.at1N (i := j) (by omega)))) ?_
          refine wl_v rfl rfl rfl (v_assign rfl) ?_
          refine wl_nil ?_
          refine wc_seq ?_
          refine wc_seq ?_
          refine wc_region ?_
          refine wl_v rfl rfl rfl (v_move rfl) ?_
          refine wl_v rfl rfl rfl (v_lss rfl rfl) ?_
          refine wl_v rfl rfl rfl (v_move rfl) ?_
          refine wl_guard rfl rfl rfl (fun g84 => ?_) (fun g84 => ?_)
          · have g84p := of_decide_eq_false g84
            refine wl_v rfl rfl rfl (v_move rfl) ?_
            refine wl_on' rfl rfl g84 ?_
            refine wl_v rfl rfl rfl (v_gtr rfl rfl) ?_
            refine wl_v rfl rfl rfl (v_pick_f rfl g84 rfl) ?_
            refine wl_nil ?_
            refine wc_cond rfl (fun c5 => ?_) (fun c5 => ?_)
            · have c5p := of_decide_eq_true c5
              refine wc_seq ?_
              refine wc_region ?_
              refine wl_v rfl rfl rfl (v_assign rfl) ?_
              refine wl_v rfl rfl rfl (v_assign rfl) ?_
              refine wl_nil ?_
              refine wc_ret ?_
              first
                | exact ⟨_, res2 rfl rfl rfl, none, 0, by rw [(by_f (fun h => of_ndec c0p h.1)).1, (by_f (fun h => of_ndec c0p h.1)).2]; rfl, by rw [(by_f (fun h => of_ndec c0p h.1)).1]; exact (H.nilrow 5 1).pm (.cons (.here _ _) (.nil _))⟩
                | (have hbad : ¬ ByOk t := fun h => by
                     have h1 := (h.2 i (by omega)).1 _ (getD_mem (z := mv0) (show j < (t.mv.getD i []).length by omega))
                     unfold okMv at h1
                     omega
                   exact ⟨_, res2 rfl rfl rfl, none, 0, by rw [(by_f hbad).1, (by_f hbad).2]; rfl, by rw [(by_f hbad).1]; exact (H.nilrow 5 1).pm (.cons (.here _ _) (.nil _))⟩)
                | (have hbad : ¬ ByOk t := fun h => by
                     have h1 := (h.2 i (by omega)).2 _ (getD_mem (z := 0) (show j < (t.go.getD i []).length by omega))
                     unfold okGo at h1
                     omega
                   exact ⟨_, res2 rfl rfl rfl, none, 0, by rw [(by_f hbad).1, (by_f hbad).2]; rfl, by rw [(by_f hbad).1]; exact (H.nilrow 5 1).pm (.cons (.here _ _) (.nil _))⟩)
                | (have hgood : ByOk t := ⟨⟨r1, r2, r3, r4⟩, hok⟩
                   exact ⟨_, res2 rfl rfl rfl, A4, cz4, by rw [(by_t hgood).1, (by_t hgood).2]; rfl, by rw [(by_t hgood).1]; exact H.pm (by repeat constructor)⟩)
            · have c5p := of_decide_eq_false c5
              have hog : okGo ((t.go.getD i []).getD j 0) := ⟨by omega, by omega⟩
              obtain ⟨ho1, ho2⟩ := hog
              have hgk' := take_ok 0 (show j < (t.go.getD i []).length by omega) hgk ⟨ho1, ho2⟩
              have hvx := vint5 (n := ((t.go.getD i []).getD j 0 + 1).toNat) (by omega)
              refine wc_skip ?_
              refine wc_region ?_
              refine wl_v rfl rfl rfl (v_move rfl) ?_
              refine wl_v rfl rfl rfl (v_move rfl) ?_
              refine wl_v rfl rfl rfl (v_addi rfl rfl (by omega)) ?_
              refine wl_call en52 rfl rfl (by have hq := short_calls (n := ((t.go.getD i []).getD j 0 + 1).toNat) (xs := (headB t ++ rowsB t i ++ mvsB (t.mv.getD i []) ++ gosB ((t.go.getD i []).take j))) (LL := fun v x => [Row (fInt .u8) 5 v x, Blk b1 25 [.slice A t.mv.length ca, .slice B t.go.length cb]]) (fun v x v' y => .here _ _ _) H (by rw [List.length_append]; omega) (by omega); rw [Int.toNat_of_nonneg (by omega)] at hq; exact hq) ?_
              rintro _ w21 ⟨A91, c91, rfl, Hc⟩
              have H22 := Hc
              refine wl_v rfl rfl rfl (v_assign rfl) ?_
              refine wl_nil ?_
              refine wc_region ?_
              refine wl_v rfl rfl rfl (v_addi rfl rfl (by omega)) ?_
              refine wl_v rfl rfl rfl (v_move rfl) ?_
              refine wl_nil ?_
              have e2 : (headB t ++ rowsB t i ++ mvsB (t.mv.getD i []) ++ gosB ((t.go.getD i []).take (j + 1))) = (headB t ++ rowsB t i ++ mvsB (t.mv.getD i []) ++ gosB ((t.go.getD i []).take j)) ++ vint ((t.go.getD i []).getD j 0 + 1).toNat := by rw [gosB_succ (by omega)]; simp only [List.append_assoc]
              exact ⟨(j + 1, A91, c91), by rw [e2]; exact (sc rfl (sc rfl (sc rfl (sc rfl (sc rfl (sc rfl (sc rfl (sc rfl (sn _))))))))), ⟨⟨by dsimp only; omega, hgk'⟩, by rw [e2]; exact H22.pm (by repeat constructor)⟩, by dsimp only; omega⟩
          · have g84p := of_decide_eq_true g84
            refine wl_off rfl rfl g84 rfl ?_
            refine wl_v rfl rfl rfl (v_pick_t rfl g84 rfl) ?_
            refine wl_nil ?_
            refine wc_cond_t rfl ?_
            refine wc_seq ?_
            refine wc_region ?_
            refine wl_v rfl rfl rfl (v_assign rfl) ?_
            refine wl_v rfl rfl rfl (v_assign rfl) ?_
            refine wl_nil ?_
            refine wc_ret ?_
            first
              | exact ⟨_, res2 rfl rfl rfl, none, 0, by rw [(by_f (fun h => of_ndec c0p h.1)).1, (by_f (fun h => of_ndec c0p h.1)).2]; rfl, by rw [(by_f (fun h => of_ndec c0p h.1)).1]; exact (H.nilrow 5 1).pm (.cons (.here _ _) (.nil _))⟩
              | (have hbad : ¬ ByOk t := fun h => by
                   have h1 := (h.2 i (by omega)).1 _ (getD_mem (z := mv0) (show j < (t.mv.getD i []).length by omega))
                   unfold okMv at h1
                   omega
                 exact ⟨_, res2 rfl rfl rfl, none, 0, by rw [(by_f hbad).1, (by_f hbad).2]; rfl, by rw [(by_f hbad).1]; exact (H.nilrow 5 1).pm (.cons (.here _ _) (.nil _))⟩)
              | (have hbad : ¬ ByOk t := fun h => by
                   have h1 := (h.2 i (by omega)).2 _ (getD_mem (z := 0) (show j < (t.go.getD i []).length by omega))
                   unfold okGo at h1
                   omega
                 exact ⟨_, res2 rfl rfl rfl, none, 0, by rw [(by_f hbad).1, (by_f hbad).2]; rfl, by rw [(by_f hbad).1]; exact (H.nilrow 5 1).pm (.cons (.here _ _) (.nil _))⟩)
              | (have hgood : ByOk t := ⟨⟨r1, r2, r3, r4⟩, hok⟩
                 exact ⟨_, res2 rfl rfl rfl, A4, cz4, by rw [(by_t hgood).1, (by_t hgood).2]; rfl, by rw [(by_t hgood).1]; exact H.pm (by repeat constructor)⟩)
        · have c4p := of_decide_eq_false c4
          rw [take_all c4p] at H hgk ⊢
          refine wc_exit ?_
          refine wc_region ?_
          refine wl_v rfl rfl rfl (v_addi rfl rfl (by omega)) ?_
          refine wl_v rfl rfl rfl (v_move rfl) ?_
          refine wl_nil ?_
          have e0 : (headB t ++ rowsB t (i + 1)) = (headB t ++ rowsB t i ++ mvsB (t.mv.getD i []) ++ gosB (t.go.getD i [])) := by rw [rowsB_succ]; simp only [List.append_assoc]
          exact ⟨(i + 1, A4, cz4), by rw [e0]; exact (sc rfl (sc rfl (sc rfl (sc rfl (sc rfl (sn _)))))), ⟨⟨by dsimp only; omega, upto_succ hok ⟨hrow, hgk⟩⟩, by rw [e0]; exact H.pm (by repeat constructor)⟩, by dsimp only; omega⟩
    · have c1p := of_decide_eq_false c1
      obtain rfl : i = t.mv.length := by omega
      refine wc_exit ?_
      refine wc_seq ?_
      refine wc_region ?_
      refine wl_v rfl rfl rfl (v_move rfl) ?_
      refine wl_v rfl rfl rfl (v_assign rfl) ?_
      refine wl_v rfl rfl rfl (v_assign rfl) ?_
      refine wl_nil ?_
      refine wc_ret ?_
      first
        | exact ⟨_, res2 rfl rfl rfl, none, 0, by rw [(by_f (fun h => of_ndec c0p h.1)).1, (by_f (fun h => of_ndec c0p h.1)).2]; rfl, by rw [(by_f (fun h => of_ndec c0p h.1)).1]; exact (H.nilrow 5 1).pm (.cons (.here _ _) (.nil _))⟩
        | (have hbad : ¬ ByOk t := fun h => by
             have h1 := (h.2 i (by omega)).1 _ (getD_mem (z := mv0) (show j < (t.mv.getD i []).length by omega))
             unfold okMv at h1
             omega
           exact ⟨_, res2 rfl rfl rfl, none, 0, by rw [(by_f hbad).1, (by_f hbad).2]; rfl, by rw [(by_f hbad).1]; exact (H.nilrow 5 1).pm (.cons (.here _ _) (.nil _))⟩)
        | (have hbad : ¬ ByOk t := fun h => by
             have h1 := (h.2 i (by omega)).2 _ (getD_mem (z := 0) (show j < (t.go.getD i []).length by omega))
             unfold okGo at h1
             omega
           exact ⟨_, res2 rfl rfl rfl, none, 0, by rw [(by_f hbad).1, (by_f hbad).2]; rfl, by rw [(by_f hbad).1]; exact (H.nilrow 5 1).pm (.cons (.here _ _) (.nil _))⟩)
        | (have hgood : ByOk t := ⟨⟨r1, r2, r3, r4⟩, hok⟩
           exact ⟨_, res2 rfl rfl rfl, A4, cz4, by rw [(by_t hgood).1, (by_t hgood).2]; rfl, by rw [(by_t hgood).1]; exact H.pm (by repeat constructor)⟩)

set_option maxHeartbeats 1600000 in
set_option maxRecDepth 100000 in
theorem rbytes_calls {A B : Option Addr} {ca cb : Nat} {t : Tb} {w : World} (hx : t.rd w A B) (hs : BSm t) :
    Calls Try.prog 28 #[t.val A B ca cb] w fun e w' => ∃ v, e = .returned v ∧ ∃ A' c, v = .tuple #[.slice A' (bytesA t).length c, .int .i64 (bytesE t)] ∧ Holds w [Row (fInt .u8) 5 (.slice A' (bytesA t).length c) (bytesA t)] w' := by
  have hM := hx.m
  have hG := hx.g
  have q1 := hs.ok.m'
  have q2 := hs.ok.g'
  have q3 := hs.m
  refine calls_of Try.func28 rfl Try.ntmps28 rfl ?_
  have H := Holds.start w
  refine wc_seq ?_
  refine wc_region ?_
  refine wl_box (cs := [_, _]) H rfl rfl rfl ?_
  intro b1 w1 hb1 H2
  refine wl_v rfl rfl rfl (v_assign rfl) ?_
  refine wl_v rfl rfl rfl (v_assign rfl) ?_
  refine wl_nil ?_
  refine wc_seq ?_
  refine wc_seq ?_
  refine wc_region ?_
  refine wl_v rfl rfl rfl (v_loadN agg25 rfl rfl (H2.ats (by repeat constructor))) ?_
  refine wl_call en34 rfl rfl (rows_calls (hx.below H2.old) hs.ok) ?_
  rintro _ w3 ⟨rfl, Hc⟩
  have H4 := H2.call Hc
  refine wl_v rfl rfl rfl (v_not rfl) ?_
  refine wl_nil ?_
  refine wc_cond rfl (fun c0 => ?_) (fun c0 => ?_)
  · have c0p := of_n_t c0
    refine wc_seq ?_
    refine wc_region ?_
    refine wl_v rfl rfl rfl (v_assign rfl) ?_
    refine wl_v rfl rfl rfl (v_assign rfl) ?_
    refine wl_nil ?_
    refine wc_ret ?_
    first
      | exact ⟨_, res2 rfl rfl rfl, none, 0, by rw [(by_f (fun h => of_ndec c0p h.1)).1, (by_f (fun h => of_ndec c0p h.1)).2]; rfl, by rw [(by_f (fun h => of_ndec c0p h.1)).1]; exact (H4.nilrow 5 1).pm (.cons (.here _ _) (.nil _))⟩
      | (have hbad : ¬ ByOk t := fun h => by
           have h1 := (h.2 i (by omega)).1 _ (getD_mem (z := mv0) (show j < (t.mv.getD i []).length by omega))
           unfold okMv at h1
           omega
         exact ⟨_, res2 rfl rfl rfl, none, 0, by rw [(by_f hbad).1, (by_f hbad).2]; rfl, by rw [(by_f hbad).1]; exact (H4.nilrow 5 1).pm (.cons (.here _ _) (.nil _))⟩)
      | (have hbad : ¬ ByOk t := fun h => by
           have h1 := (h.2 i (by omega)).2 _ (getD_mem (z := 0) (show j < (t.go.getD i []).length by omega))
           unfold okGo at h1
           omega
         exact ⟨_, res2 rfl rfl rfl, none, 0, by rw [(by_f hbad).1, (by_f hbad).2]; rfl, by rw [(by_f hbad).1]; exact (H4.nilrow 5 1).pm (.cons (.here _ _) (.nil _))⟩)
      | (have hgood : ByOk t := ⟨⟨r1, r2, r3, r4⟩, hok⟩
         exact ⟨_, res2 rfl rfl rfl, A4, cz4, by rw [(by_t hgood).1, (by_t hgood).2]; rfl, by rw [(by_t hgood).1]; exact H4.pm (by repeat constructor)⟩)
  · have c0p := of_n_f c0
    have hR := of_dec c0p
    obtain ⟨r1, r2, r3, r4⟩ := hR
    have r5 := hs.ml (i := 0) r1
    have r6 := hs.gl (i := 0) (by omega)
    have hv1 := vint5 (n := t.mv.length) (by omega)
    have hv2 := vint5 (n := (t.mv.getD 0 []).length) (by omega)
    have hv3 := vint5 (n := (t.go.getD 0 []).length) (by omega)
    refine wc_skip ?_
    refine wc_seq ?_
    refine wc_tree [0, 1, 2, 4, 5, 6, 7, 8, 11] (fun W => Holds w [Blk b1 25 [.slice A t.mv.length ca, .slice B t.go.length cb]] W) mixed ?_
    have Hd := H4.drew
    have HSd : Holds w [Blk b1 25 [.slice A t.mv.length ca, .slice B t.go.length cb]] _ := Hd.pm (by repeat constructor)
    refine wj_v (k := 0) rfl (by kernel_rfl) (fun _ _ _ h => h) HSd rfl rfl rfl (fun W HW => v_fb (o2 := 0) fa25_0 rfl rfl) ?_
    refine wj_v (k := 1) rfl (by kernel_rfl) (fun _ _ _ h => h) HSd rfl rfl rfl (fun W HW => v_load one22 rfl (HW.at (by repeat constructor) rfl)) ?_
    refine wj_v (k := 2) rfl (by kernel_rfl) (fun _ _ _ h => h) HSd rfl rfl rfl (fun W HW => v_len Try.underlying22 rfl) ?_
    refine wj_v (k := 4) rfl (by kernel_rfl) (fun _ _ _ h => h) HSd rfl rfl rfl (fun W HW => v_fb (o2 := 0) fa25_0 rfl rfl) ?_
    refine wj_v (k := 5) rfl (by kernel_rfl) (fun _ _ _ h => h) HSd rfl rfl rfl (fun W HW => v_load one22 rfl (HW.at (by repeat constructor) rfl)) ?_
    refine wj_v (k := 6) rfl (by kernel_rfl) (fun _ _ _ h => h) HSd rfl rfl rfl (fun W HW => v_idx Try.underlying22 sz38 hM.ad rfl rfl (by omega) (by omega)) ?_
    obtain ⟨B19, cp19, hc19, hl19, hr19⟩ := hM.atSlN (i := 0) (by omega)
    refine wj_v (k := 7) rfl (by kernel_rfl) (fun _ _ _ h => h) HSd rfl rfl rfl (fun W HW => v_load one38 rfl (HW.cell (hc19))) ?_
    refine wj_v (k := 8) rfl (by kernel_rfl) (fun _ _ _ h => h) HSd rfl rfl rfl (fun W HW => v_len Try.underlying38 rfl) ?_
    refine wj_t (k := 3) rfl (by kernel_rfl) ?_
    refine wl_call en53 rfl rfl (uint_calls (n := t.mv.length) (by omega)) ?_
    rintro _ w5 ⟨A15, c15, rfl, Hc⟩
    have H6 := Hd.call Hc
    have HS7 : Holds w [Blk b1 25 [.slice A t.mv.length ca, .slice B t.go.length cb]] _ := H6.pm (by repeat constructor)
    refine wl_nil (tn ⟨fun _ => HS7, ?_⟩)
    refine wj_t (k := 9) rfl (by kernel_rfl) ?_
    refine wl_call en53 rfl rfl (uint_calls (n := (t.mv.getD 0 []).length) (by omega)) ?_
    rintro _ w8 ⟨A21, c21, rfl, Hc⟩
    have H9 := H6.call Hc
    have HS10 : Holds w [Blk b1 25 [.slice A t.mv.length ca, .slice B t.go.length cb]] _ := H9.pm (by repeat constructor)
    refine wl_nil (tn ⟨fun _ => HS10, ?_⟩)
    refine wj_t (k := 10) rfl (by kernel_rfl) ?_
    refine wl_appR (f := fInt .u8) (xs := (vint t.mv.length)) (ys := (vint (t.mv.getD 0 []).length)) H9 (fun v' => (by repeat constructor)) rfl Try.underlying64 info5 rfl (by decide) rfl rfl (H9.rrd (f := fInt .u8) (e := 5) (A := A21) (xs := (vint (t.mv.getD 0 []).length)) (by repeat constructor)) (by first | omega | (simp only [List.length_append] at *; omega)) (by decide) ?_
    intro A22 c22 w11 H11 hs11
    have HS12 : Holds w [Blk b1 25 [.slice A t.mv.length ca, .slice B t.go.length cb]] _ := H11.pm (by repeat constructor)
    refine wl_nil (tn ⟨fun _ => HS12, ?_⟩)
    refine wj_v (k := 11) rfl (by kernel_rfl) (fun _ _ _ h => h) HS12 rfl rfl rfl (fun W HW => v_assign rfl) ?_
    refine wj_done (by kernel_rfl) ?_
    refine wc_seq ?_
    refine wc_region ?_
    refine wl_v rfl rfl rfl (v_move rfl) ?_
    refine wl_v rfl rfl rfl (v_fb (o2 := 1) fa25_1 rfl rfl) ?_
    refine wl_v rfl rfl rfl (v_load one23 rfl (H11.at (by repeat constructor) rfl)) ?_
    refine wl_v rfl rfl rfl (v_idx Try.underlying23 sz39 hG.ad rfl rfl (by omega) (by omega)) ?_
    obtain ⟨B27, cp27, hc27, hl27, hr27⟩ := hG.atSlN (i := 0) (by omega)
    refine wl_v rfl rfl rfl (v_load one39 rfl (H11.cell (hc27))) ?_
    refine wl_v rfl rfl rfl (v_len Try.underlying39 rfl) ?_
    refine wl_call en53 rfl rfl (uint_calls (n := (t.go.getD 0 []).length) (by omega)) ?_
    rintro _ w13 ⟨A29, c29, rfl, Hc⟩
    have H14 := H11.call Hc
    refine wl_appR (f := fInt .u8) (xs := (vint t.mv.length ++ vint (t.mv.getD 0 []).length)) (ys := (vint (t.go.getD 0 []).length)) H14 (fun v' => (by repeat constructor)) rfl Try.underlying64 info5 rfl (by decide) rfl rfl (H14.rrd (f := fInt .u8) (e := 5) (A := A29) (xs := (vint (t.go.getD 0 []).length)) (by repeat constructor)) (by first | omega | (simp only [List.length_append] at *; omega)) (by decide) ?_
    intro A30 c30 w15 H15 hs15
    refine wl_v rfl rfl rfl (v_assign rfl) ?_
    refine wl_nil ?_
    refine wc_seq ?_
    refine wc_seq ?_
    refine wc_region ?_
    refine wl_v rfl rfl rfl (v_assign rfl) ?_
    refine wl_nil ?_
    refine wc_block ?_
    have hO0 : (headB t ++ rowsB t 0) = (vint t.mv.length ++ vint (t.mv.getD 0 []).length ++ vint (t.go.getD 0 []).length) := by simp [headB, rowsB]
    refine wc_loop (σ := Nat × Option Addr × Nat) (fun s => [(1, .pointer (some ⟨b1, 0, none⟩)), (4, .slice s.2.1 (headB t ++ rowsB t s.1).length s.2.2), (5, .int .i64 s.1)]) (fun s W => (s.1 ≤ t.mv.length ∧ ∀ q, q < s.1 → RowOk2 t q) ∧ Holds w [Row (fInt .u8) 5 (.slice s.2.1 (headB t ++ rowsB t s.1).length s.2.2) (headB t ++ rowsB t s.1), Blk b1 25 [.slice A t.mv.length ca, .slice B t.go.length cb]] W) (fun s => t.mv.length - s.1) (0, A30, c30) (by dsimp only; rw [hO0]; exact (sc rfl (sc rfl (sc rfl (sn _))))) ⟨⟨Nat.zero_le _, upto_zero⟩, by dsimp only; rw [hO0]; exact H15.pm (by repeat constructor)⟩ ?_
    rintro ⟨i, A4, cz4⟩ W0 ⟨⟨hi, hok⟩, H⟩
    dsimp only at hi hok H ⊢
    refine wc_seq ?_
    refine wc_seq ?_
    refine wc_region ?_
    refine wl_v rfl rfl rfl (v_move rfl) ?_
    refine wl_v rfl rfl rfl (v_fb (o2 := 0) fa25_0 rfl rfl) ?_
    refine wl_v rfl rfl rfl (v_load one22 rfl (H.at (by repeat constructor) rfl)) ?_
    refine wl_v rfl rfl rfl (v_len Try.underlying22 rfl) ?_
    refine wl_v rfl rfl rfl (v_lss rfl rfl) ?_
    refine wl_nil ?_
    refine wc_cond rfl (fun c1 => ?_) (fun c1 => ?_)
    · have c1p := of_decide_eq_true c1
      have hrl := hs.ml (i := i) (by omega)
      have hgl := hs.gl (i := i) (by omega)
      have ho0 := out0 hs r3 r1 hi hok
      refine wc_skip ?_
      refine wc_seq ?_
      refine wc_block ?_
      refine wc_seq ?_
      refine wc_seq ?_
      refine wc_region ?_
      refine wl_v rfl rfl rfl (v_assign rfl) ?_
      refine wl_nil ?_
      refine wc_block ?_
      have hO1 : (headB t ++ rowsB t i ++ mvsB ((t.mv.getD i []).take 0)) = (headB t ++ rowsB t i) := by simp [mvsB]
      refine wc_loop (σ := Nat × Option Addr × Nat) (fun s => [(1, .pointer (some ⟨b1, 0, none⟩)), (4, .slice s.2.1 (headB t ++ rowsB t i ++ mvsB ((t.mv.getD i []).take s.1)).length s.2.2), (5, .int .i64 i), (6, .int .i64 s.1)]) (fun s W => (s.1 ≤ (t.mv.getD i []).length ∧ ∀ m ∈ (t.mv.getD i []).take s.1, okMv m) ∧ Holds w [Row (fInt .u8) 5 (.slice s.2.1 (headB t ++ rowsB t i ++ mvsB ((t.mv.getD i []).take s.1)).length s.2.2) (headB t ++ rowsB t i ++ mvsB ((t.mv.getD i []).take s.1)), Blk b1 25 [.slice A t.mv.length ca, .slice B t.go.length cb]] W) (fun s => (t.mv.getD i []).length - s.1) (0, A4, cz4) (by dsimp only; rw [hO1]; exact (sc rfl (sc rfl (sc rfl (sc rfl (sn _)))))) ⟨⟨Nat.zero_le _, fun m hm => by simp at hm⟩, by dsimp only; rw [hO1]; exact H.pm (by repeat constructor)⟩ ?_
      rintro ⟨j, A4, cz4⟩ W1 ⟨⟨hj, hmk⟩, H⟩
      dsimp only at hj hmk H ⊢
      refine wc_seq ?_
      refine wc_seq ?_
      refine wc_region ?_
      refine wl_v rfl rfl rfl (v_move rfl) ?_
      refine wl_v rfl rfl rfl (v_fb (o2 := 0) fa25_0 rfl rfl) ?_
      refine wl_v rfl rfl rfl (v_load one22 rfl (H.at (by repeat constructor) rfl)) ?_
      refine wl_v rfl rfl rfl (v_move rfl) ?_
      refine wl_v rfl rfl rfl (v_idx Try.underlying22 sz38 hM.ad rfl rfl (by omega) (by omega)) ?_
      obtain ⟨B43, cp43, hc43, hl43, hr43⟩ := hM.atSlN (i := i) (by omega)
      refine wl_v rfl rfl rfl (v_load one38 rfl (H.cell (hc43))) ?_
      refine wl_v rfl rfl rfl (v_len Try.underlying38 rfl) ?_
      refine wl_v rfl rfl rfl (v_lss rfl rfl) ?_
      refine wl_nil ?_
      refine wc_cond rfl (fun c2 => ?_) (fun c2 => ?_)
      · have c2p := of_decide_eq_true c2
        have hl1 := out1 hs r3 (show i < t.mv.length by omega) hok hmk
        refine wc_skip ?_
        refine wc_seq ?_
        refine wc_block ?_
        refine wc_seq ?_
        refine wc_region ?_
        refine wl_v rfl rfl rfl (v_fb (o2 := 0) fa25_0 rfl rfl) ?_
        refine wl_v rfl rfl rfl (v_load one22 rfl (H.at (by repeat constructor) rfl)) ?_
        refine wl_v rfl rfl rfl (v_move rfl) ?_
        refine wl_v rfl rfl rfl (v_idx Try.underlying22 sz38 hM.ad rfl rfl (by omega) (by omega)) ?_
        obtain ⟨B52, cp52, hc52, hl52, hr52⟩ := hM.atSlN (i := i) (by omega)
        refine wl_v rfl rfl rfl (v_load one38 rfl (H.cell (hc52))) ?_
        refine wl_v rfl rfl rfl (v_move rfl) ?_
        refine wl_v rfl rfl rfl (v_idx Try.underlying38 sz48 hr52.ad rfl rfl (by omega) (by omega)) ?_
        refine wl_v rfl rfl rfl (v_loadN (cs := fMv.enc _) agg48 rfl rfl (fun k u hu => H.cell (hr52.atN (i := j) (k := k) mv0 (by omega) hu))) ?_
        refine wl_alloc (cs := [.int .i64 0, .int .i64 0]) H rfl zv48 rfl ?_
        intro b7 w16 hb7 H17
        refine wl_store (vs := [_, _]) H17 (by repeat constructor) sz48 rfl rfl rfl rfl rfl (by repeat constructor) ?_
        intro w18 H19 hw18
        refine wl_nil ?_
        refine wc_seq ?_
        refine wc_seq ?_
        refine wc_region ?_
        refine wl_v rfl rfl rfl (v_fb (o2 := 0) fa48_0 rfl rfl) ?_
        refine wl_v rfl rfl rfl (v_load one3 rfl (H19.at (by repeat constructor) rfl)) ?_
        refine wl_v rfl rfl rfl (v_lss rfl rfl) ?_
        refine wl_v rfl rfl rfl (v_move rfl) ?_
        refine wl_guard rfl rfl rfl (fun g59 => ?_) (fun g59 => ?_)
        · have g59p := of_decide_eq_false g59
          refine wl_v rfl rfl rfl (v_fb (o2 := 1) fa48_1 rfl rfl) ?_
          refine wl_on' rfl rfl g59 ?_
          refine wl_v rfl rfl rfl (v_load one3 rfl (H19.at (by repeat constructor) rfl)) ?_
          refine wl_on' rfl rfl g59 ?_
          refine wl_v rfl rfl rfl (v_lss rfl rfl) ?_
          refine wl_v rfl rfl rfl (v_pick_f rfl g59 rfl) ?_
          refine wl_v rfl rfl rfl (v_move rfl) ?_
          refine wl_guard rfl rfl rfl (fun g64 => ?_) (fun g64 => ?_)
          · have g64p := of_decide_eq_false g64
            refine wl_v rfl rfl rfl (v_fb (o2 := 0) fa48_0 rfl rfl) ?_
            refine wl_on' rfl rfl g64 ?_
            refine wl_v rfl rfl rfl (v_load one3 rfl (H19.at (by repeat constructor) rfl)) ?_
            refine wl_on' rfl rfl g64 ?_
            refine wl_v rfl rfl rfl (v_gtr rfl rfl) ?_
            refine wl_v rfl rfl rfl (v_pick_f rfl g64 rfl) ?_
            refine wl_v rfl rfl rfl (v_move rfl) ?_
            refine wl_guard rfl rfl rfl (fun g69 => ?_) (fun g69 => ?_)
            · have g69p := of_decide_eq_false g69
              refine wl_v rfl rfl rfl (v_fb (o2 := 1) fa48_1 rfl rfl) ?_
              refine wl_on' rfl rfl g69 ?_
              refine wl_v rfl rfl rfl (v_load one3 rfl (H19.at (by repeat constructor) rfl)) ?_
              refine wl_on' rfl rfl g69 ?_
              refine wl_v rfl rfl rfl (v_gtr rfl rfl) ?_
              refine wl_v rfl rfl rfl (v_pick_f rfl g69 rfl) ?_
              refine wl_nil ?_
              refine wc_cond rfl (fun c3 => ?_) (fun c3 => ?_)
              · have c3p := of_decide_eq_true c3
                refine wc_seq ?_
                refine wc_region ?_
                refine wl_v rfl rfl rfl (v_assign rfl) ?_
                refine wl_v rfl rfl rfl (v_assign rfl) ?_
                refine wl_nil ?_
                refine wc_ret ?_
                first
                  | exact ⟨_, res2 rfl rfl rfl, none, 0, by rw [(by_f (fun h => of_ndec c0p h.1)).1, (by_f (fun h => of_ndec c0p h.1)).2]; rfl, by rw [(by_f (fun h => of_ndec c0p h.1)).1]; exact (H19.nilrow 5 1).pm (.cons (.here _ _) (.nil _))⟩
                  | (have hbad : ¬ ByOk t := fun h => by
                       have h1 := (h.2 i (by omega)).1 _ (getD_mem (z := mv0) (show j < (t.mv.getD i []).length by omega))
                       unfold okMv at h1
                       omega
                     exact ⟨_, res2 rfl rfl rfl, none, 0, by rw [(by_f hbad).1, (by_f hbad).2]; rfl, by rw [(by_f hbad).1]; exact (H19.nilrow 5 1).pm (.cons (.here _ _) (.nil _))⟩)
                  | (have hbad : ¬ ByOk t := fun h => by
                       have h1 := (h.2 i (by omega)).2 _ (getD_mem (z := 0) (show j < (t.go.getD i []).length by omega))
                       unfold okGo at h1
                       omega
                     exact ⟨_, res2 rfl rfl rfl, none, 0, by rw [(by_f hbad).1, (by_f hbad).2]; rfl, by rw [(by_f hbad).1]; exact (H19.nilrow 5 1).pm (.cons (.here _ _) (.nil _))⟩)
                  | (have hgood : ByOk t := ⟨⟨r1, r2, r3, r4⟩, hok⟩
                     exact ⟨_, res2 rfl rfl rfl, A4, cz4, by rw [(by_t hgood).1, (by_t hgood).2]; rfl, by rw [(by_t hgood).1]; exact H19.pm (by repeat constructor)⟩)
              · have c3p := of_decide_eq_false c3
                have hom : okMv ((t.mv.getD i []).getD j mv0) := ⟨by omega, by omega, by omega, by omega⟩
                obtain ⟨ho1, ho2, ho3, ho4⟩ := hom
                have hmk' := take_ok mv0 (show j < (t.mv.getD i []).length by omega) hmk ⟨ho1, ho2, ho3, ho4⟩
                have hvd := vint5 (n := ((t.mv.getD i []).getD j mv0).d.toNat) (by omega)
                have hvn := vint5 (n := ((t.mv.getD i []).getD j mv0).n.toNat) (by omega)
                refine wc_skip ?_
                refine wc_tree [0, 1, 2, 5, 6, 9] (fun W => Holds w [Blk b7 48 [.int .i64 ((t.mv.getD i []).getD j mv0).d, .int .i64 ((t.mv.getD i []).getD j mv0).n]] W) mixed ?_
                have Hd := H19.drew
                have HSd : Holds w [Blk b7 48 [.int .i64 ((t.mv.getD i []).getD j mv0).d, .int .i64 ((t.mv.getD i []).getD j mv0).n]] _ := Hd.pm (by repeat constructor)
                refine wj_v (k := 0) rfl (by kernel_rfl) (fun _ _ _ h => h) HSd rfl rfl rfl (fun W HW => v_move rfl) ?_
                refine wj_v (k := 1) rfl (by kernel_rfl) (fun _ _ _ h => h) HSd rfl rfl rfl (fun W HW => v_fb (o2 := 0) fa48_0 rfl rfl) ?_
                refine wj_v (k := 2) rfl (by kernel_rfl) (fun _ _ _ h => h) HSd rfl rfl rfl (fun W HW => v_load one3 rfl (HW.at (by repeat constructor) rfl)) ?_
                refine wj_v (k := 5) rfl (by kernel_rfl) (fun _ _ _ h => h) HSd rfl rfl rfl (fun W HW => v_fb (o2 := 1) fa48_1 rfl rfl) ?_
                refine wj_v (k := 6) rfl (by kernel_rfl) (fun _ _ _ h => h) HSd rfl rfl rfl (fun W HW => v_load one3 rfl (HW.at (by repeat constructor) rfl)) ?_
                refine wj_t (k := 3) rfl (by kernel_rfl) ?_
                refine wl_call en53 rfl rfl (uint_callsI (by omega) (by omega)) ?_
                rintro _ w20 ⟨A77, c77, rfl, Hc⟩
                have H21 := Hd.call Hc
                have HS22 : Holds w [Blk b7 48 [.int .i64 ((t.mv.getD i []).getD j mv0).d, .int .i64 ((t.mv.getD i []).getD j mv0).n]] _ := H21.pm (by repeat constructor)
                refine wl_nil (tn ⟨fun _ => HS22, ?_⟩)
                refine wj_t (k := 4) rfl (by kernel_rfl) ?_
                refine wl_appR (f := fInt .u8) (xs := (headB t ++ rowsB t i ++ mvsB ((t.mv.getD i []).take j))) (ys := (vint ((t.mv.getD i []).getD j mv0).d.toNat)) H21 (fun v' => (by repeat constructor)) rfl Try.underlying64 info5 rfl (by decide) rfl rfl (H21.rrd (f := fInt .u8) (e := 5) (A := A77) (xs := (vint ((t.mv.getD i []).getD j mv0).d.toNat)) (by repeat constructor)) (by first | omega | (simp only [List.length_append] at *; omega)) (by decide) ?_
                intro A78 c78 w23 H23 hs23
                have HS24 : Holds w [Blk b7 48 [.int .i64 ((t.mv.getD i []).getD j mv0).d, .int .i64 ((t.mv.getD i []).getD j mv0).n]] _ := H23.pm (by repeat constructor)
                refine wl_nil (tn ⟨fun _ => HS24, ?_⟩)
                refine wj_t (k := 7) rfl (by kernel_rfl) ?_
                refine wl_call en53 rfl rfl (uint_callsI (by omega) (by omega)) ?_
                rintro _ w25 ⟨A81, c81, rfl, Hc⟩
                have H26 := H23.call Hc
                have HS27 : Holds w [Blk b7 48 [.int .i64 ((t.mv.getD i []).getD j mv0).d, .int .i64 ((t.mv.getD i []).getD j mv0).n]] _ := H26.pm (by repeat constructor)
                refine wl_nil (tn ⟨fun _ => HS27, ?_⟩)
                refine wj_t (k := 8) rfl (by kernel_rfl) ?_
                refine wl_appR (f := fInt .u8) (xs := ((headB t ++ rowsB t i ++ mvsB ((t.mv.getD i []).take j)) ++ vint ((t.mv.getD i []).getD j mv0).d.toNat)) (ys := (vint ((t.mv.getD i []).getD j mv0).n.toNat)) H26 (fun v' => (by repeat constructor)) rfl Try.underlying64 info5 rfl (by decide) rfl rfl (H26.rrd (f := fInt .u8) (e := 5) (A := A81) (xs := (vint ((t.mv.getD i []).getD j mv0).n.toNat)) (by repeat constructor)) (by first | omega | (simp only [List.length_append] at *; omega)) (by decide) ?_
                intro A82 c82 w28 H28 hs28
                have HS29 : Holds w [Blk b7 48 [.int .i64 ((t.mv.getD i []).getD j mv0).d, .int .i64 ((t.mv.getD i []).getD j mv0).n]] _ := H28.pm (by repeat constructor)
                refine wl_nil (tn ⟨fun _ => HS29, ?_⟩)
                refine wj_v (k := 9) rfl (by kernel_rfl) (fun _ _ _ h => h) HS29 rfl rfl rfl (fun W HW => v_assign rfl) ?_
                refine wj_done (by kernel_rfl) ?_
                refine wc_region ?_
                refine wl_v rfl rfl rfl (v_move rfl) ?_
                refine wl_v rfl rfl rfl (v_addi rfl rfl (by omega)) ?_
                refine wl_v rfl rfl rfl (v_assign rfl) ?_
                refine wl_nil ?_
                have e1 : (headB t ++ rowsB t i ++ mvsB ((t.mv.getD i []).take (j + 1))) = (headB t ++ rowsB t i ++ mvsB ((t.mv.getD i []).take j)) ++ vint ((t.mv.getD i []).getD j mv0).d.toNat ++ vint ((t.mv.getD i []).getD j mv0).n.toNat := by rw [mvsB_succ (by omega)]; simp only [List.append_assoc]
                exact ⟨(j + 1, A82, c82), by rw [e1]; exact (sc rfl (sc rfl (sc rfl (sc rfl (sn _))))), ⟨⟨by dsimp only; omega, hmk'⟩, by rw [e1]; exact H28.pm (by repeat constructor)⟩, by dsimp only; omega⟩
            · have g69p := of_decide_eq_true g69
              refine wl_off rfl rfl g69 rfl ?_
              refine wl_off rfl rfl g69 rfl ?_
              refine wl_v rfl rfl rfl (v_pick_t rfl g69 rfl) ?_
              refine wl_nil ?_
              refine wc_cond_t rfl ?_
              refine wc_seq ?_
              refine wc_region ?_
              refine wl_v rfl rfl rfl (v_assign rfl) ?_
              refine wl_v rfl rfl rfl (v_assign rfl) ?_
              refine wl_nil ?_
              refine wc_ret ?_
              first
                | exact ⟨_, res2 rfl rfl rfl, none, 0, by rw [(by_f (fun h => of_ndec c0p h.1)).1, (by_f (fun h => of_ndec c0p h.1)).2]; rfl, by rw [(by_f (fun h => of_ndec c0p h.1)).1]; exact (H19.nilrow 5 1).pm (.cons (.here _ _) (.nil _))⟩
                | (have hbad : ¬ ByOk t := fun h => by
                     have h1 := (h.2 i (by omega)).1 _ (getD_mem (z := mv0) (show j < (t.mv.getD i []).length by omega))
                     unfold okMv at h1
                     omega
                   exact ⟨_, res2 rfl rfl rfl, none, 0, by rw [(by_f hbad).1, (by_f hbad).2]; rfl, by rw [(by_f hbad).1]; exact (H19.nilrow 5 1).pm (.cons (.here _ _) (.nil _))⟩)
                | (have hbad : ¬ ByOk t := fun h => by
                     have h1 := (h.2 i (by omega)).2 _ (getD_mem (z := 0) (show j < (t.go.getD i []).length by omega))
                     unfold okGo at h1
                     omega
                   exact ⟨_, res2 rfl rfl rfl, none, 0, by rw [(by_f hbad).1, (by_f hbad).2]; rfl, by rw [(by_f hbad).1]; exact (H19.nilrow 5 1).pm (.cons (.here _ _) (.nil _))⟩)
                | (have hgood : ByOk t := ⟨⟨r1, r2, r3, r4⟩, hok⟩
                   exact ⟨_, res2 rfl rfl rfl, A4, cz4, by rw [(by_t hgood).1, (by_t hgood).2]; rfl, by rw [(by_t hgood).1]; exact H19.pm (by repeat constructor)⟩)
          · have g64p := of_decide_eq_true g64
            refine wl_off rfl rfl g64 rfl ?_
            refine wl_off rfl rfl g64 rfl ?_
            refine wl_v rfl rfl rfl (v_pick_t rfl g64 rfl) ?_
            refine wl_v rfl rfl rfl (v_move rfl) ?_
            refine wl_off rfl rfl rfl rfl ?_
            refine wl_off rfl rfl rfl rfl ?_
            refine wl_off rfl rfl rfl rfl ?_
            refine wl_v rfl rfl rfl (v_pick_t rfl rfl rfl) ?_
            refine wl_nil ?_
            refine wc_cond_t rfl ?_
            refine wc_seq ?_
            refine wc_region ?_
            refine wl_v rfl rfl rfl (v_assign rfl) ?_
            refine wl_v rfl rfl rfl (v_assign rfl) ?_
            refine wl_nil ?_
            refine wc_ret ?_
            first
              | exact ⟨_, res2 rfl rfl rfl, none, 0, by rw [(by_f (fun h => of_ndec c0p h.1)).1, (by_f (fun h => of_ndec c0p h.1)).2]; rfl, by rw [(by_f (fun h => of_ndec c0p h.1)).1]; exact (H19.nilrow 5 1).pm (.cons (.here _ _) (.nil _))⟩
              | (have hbad : ¬ ByOk t := fun h => by
                   have h1 := (h.2 i (by omega)).1 _ (getD_mem (z := mv0) (show j < (t.mv.getD i []).length by omega))
                   unfold okMv at h1
                   omega
                 exact ⟨_, res2 rfl rfl rfl, none, 0, by rw [(by_f hbad).1, (by_f hbad).2]; rfl, by rw [(by_f hbad).1]; exact (H19.nilrow 5 1).pm (.cons (.here _ _) (.nil _))⟩)
              | (have hbad : ¬ ByOk t := fun h => by
                   have h1 := (h.2 i (by omega)).2 _ (getD_mem (z := 0) (show j < (t.go.getD i []).length by omega))
                   unfold okGo at h1
                   omega
                 exact ⟨_, res2 rfl rfl rfl, none, 0, by rw [(by_f hbad).1, (by_f hbad).2]; rfl, by rw [(by_f hbad).1]; exact (H19.nilrow 5 1).pm (.cons (.here _ _) (.nil _))⟩)
              | (have hgood : ByOk t := ⟨⟨r1, r2, r3, r4⟩, hok⟩
                 exact ⟨_, res2 rfl rfl rfl, A4, cz4, by rw [(by_t hgood).1, (by_t hgood).2]; rfl, by rw [(by_t hgood).1]; exact H19.pm (by repeat constructor)⟩)
        · have g59p := of_decide_eq_true g59
          refine wl_off rfl rfl g59 rfl ?_
          refine wl_off rfl rfl g59 rfl ?_
          refine wl_v rfl rfl rfl (v_pick_t rfl g59 rfl) ?_
          refine wl_v rfl rfl rfl (v_move rfl) ?_
          refine wl_off rfl rfl rfl rfl ?_
          refine wl_off rfl rfl rfl rfl ?_
          refine wl_off rfl rfl rfl rfl ?_
          refine wl_v rfl rfl rfl (v_pick_t rfl rfl rfl) ?_
          refine wl_v rfl rfl rfl (v_move rfl) ?_
          refine wl_off rfl rfl rfl rfl ?_
          refine wl_off rfl rfl rfl rfl ?_
          refine wl_off rfl rfl rfl rfl ?_
          refine wl_v rfl rfl rfl (v_pick_t rfl rfl rfl) ?_
          refine wl_nil ?_
          refine wc_cond_t rfl ?_
          refine wc_seq ?_
          refine wc_region ?_
          refine wl_v rfl rfl rfl (v_assign rfl) ?_
          refine wl_v rfl rfl rfl (v_assign rfl) ?_
          refine wl_nil ?_
          refine wc_ret ?_
          first
            | exact ⟨_, res2 rfl rfl rfl, none, 0, by rw [(by_f (fun h => of_ndec c0p h.1)).1, (by_f (fun h => of_ndec c0p h.1)).2]; rfl, by rw [(by_f (fun h => of_ndec c0p h.1)).1]; exact (H19.nilrow 5 1).pm (.cons (.here _ _) (.nil _))⟩
            | (have hbad : ¬ ByOk t := fun h => by
                 have h1 := (h.2 i (by omega)).1 _ (getD_mem (z := mv0) (show j < (t.mv.getD i []).length by omega))
                 unfold okMv at h1
                 omega
               exact ⟨_, res2 rfl rfl rfl, none, 0, by rw [(by_f hbad).1, (by_f hbad).2]; rfl, by rw [(by_f hbad).1]; exact (H19.nilrow 5 1).pm (.cons (.here _ _) (.nil _))⟩)
            | (have hbad : ¬ ByOk t := fun h => by
                 have h1 := (h.2 i (by omega)).2 _ (getD_mem (z := 0) (show j < (t.go.getD i []).length by omega))
                 unfold okGo at h1
                 omega
               exact ⟨_, res2 rfl rfl rfl, none, 0, by rw [(by_f hbad).1, (by_f hbad).2]; rfl, by rw [(by_f hbad).1]; exact (H19.nilrow 5 1).pm (.cons (.here _ _) (.nil _))⟩)
            | (have hgood : ByOk t := ⟨⟨r1, r2, r3, r4⟩, hok⟩
               exact ⟨_, res2 rfl rfl rfl, A4, cz4, by rw [(by_t hgood).1, (by_t hgood).2]; rfl, by rw [(by_t hgood).1]; exact H19.pm (by repeat constructor)⟩)
      · have c2p := of_decide_eq_false c2
        rw [take_all c2p] at H hmk ⊢
        have hrow := hmk
        refine wc_exit ?_
        refine wc_seq ?_
        refine wc_region ?_
        refine wl_v rfl rfl rfl (v_assign rfl) ?_
        refine wl_nil ?_
        refine wc_block ?_
        have hO2 : (headB t ++ rowsB t i ++ mvsB (t.mv.getD i []) ++ gosB ((t.go.getD i []).take 0)) = (headB t ++ rowsB t i ++ mvsB (t.mv.getD i [])) := by simp [gosB]
        refine wc_loop (σ := Nat × Option Addr × Nat) (fun s => [(1, .pointer (some ⟨b1, 0, none⟩)), (4, .slice s.2.1 (headB t ++ rowsB t i ++ mvsB (t.mv.getD i []) ++ gosB ((t.go.getD i []).take s.1)).length s.2.2), (5, .int .i64 i), (8, .int .i64 s.1)]) (fun s W => (s.1 ≤ (t.go.getD i []).length ∧ ∀ x ∈ (t.go.getD i []).take s.1, okGo x) ∧ Holds w [Row (fInt .u8) 5 (.slice s.2.1 (headB t ++ rowsB t i ++ mvsB (t.mv.getD i []) ++ gosB ((t.go.getD i []).take s.1)).length s.2.2) (headB t ++ rowsB t i ++ mvsB (t.mv.getD i []) ++ gosB ((t.go.getD i []).take s.1)), Blk b1 25 [.slice A t.mv.length ca, .slice B t.go.length cb]] W) (fun s => (t.go.getD i []).length - s.1) (0, A4, cz4) (by dsimp only; rw [hO2]; exact (sc rfl (sc rfl (sc rfl (sc rfl (sn _)))))) ⟨⟨Nat.zero_le _, fun m hm => by simp at hm⟩, by dsimp only; rw [hO2]; exact H.pm (by repeat constructor)⟩ ?_
        rintro ⟨j, A4, cz4⟩ W2 ⟨⟨hj, hgk⟩, H⟩
        dsimp only at hj hgk H ⊢
        refine wc_seq ?_
        refine wc_seq ?_
        refine wc_region ?_
        refine wl_v rfl rfl rfl (v_move rfl) ?_
        refine wl_v rfl rfl rfl (v_fb (o2 := 1) fa25_1 rfl rfl) ?_
        refine wl_v rfl rfl rfl (v_load one23 rfl (H.at (by repeat constructor) rfl)) ?_
        refine wl_v rfl rfl rfl (v_move rfl) ?_
        refine wl_v rfl rfl rfl (v_idx Try.underlying23 sz39 hG.ad rfl rfl (by omega) (by omega)) ?_
        obtain ⟨B88, cp88, hc88, hl88, hr88⟩ := hG.atSlN (i := i) (by omega)
        refine wl_v rfl rfl rfl (v_load one39 rfl (H.cell (hc88))) ?_
        refine wl_v rfl rfl rfl (v_len Try.underlying39 rfl) ?_
        refine wl_v rfl rfl rfl (v_lss rfl rfl) ?_
        refine wl_nil ?_
        refine wc_cond rfl (fun c4 => ?_) (fun c4 => ?_)
        · have c4p := of_decide_eq_true c4
          have hl2 := out2 hs r3 (show i < t.mv.length by omega) hok hrow hgk
          refine wc_skip ?_
          refine wc_seq ?_
          refine wc_block ?_
          refine wc_seq ?_
          refine wc_seq ?_
          refine wc_region ?_
          refine wl_v rfl rfl rfl (v_fb (o2 := 1) fa25_1 rfl rfl) ?_
          refine wl_v rfl rfl rfl (v_load one23 rfl (H.at (by repeat constructor) rfl)) ?_
          refine wl_v rfl rfl rfl (v_move rfl) ?_
          refine wl_v rfl rfl rfl (v_idx Try.underlying23 sz39 hG.ad rfl rfl (by omega) (by omega)) ?_
          obtain ⟨B97, cp97, hc97, hl97, hr97⟩ := hG.atSlN (i := i) (by omega)
          refine wl_v rfl rfl rfl (v_load one39 rfl (H.cell (hc97))) ?_
          refine wl_v rfl rfl rfl (v_move rfl) ?_
          refine wl_v rfl rfl rfl (v_idx Try.underlying39 sz3 hr97.ad rfl rfl (by omega) (by omega)) ?_
          refine wl_v rfl rfl rfl (v_load one3 rfl (H.cell (hr97.at1N (i := j) (by omega)))) ?_
          refine wl_v rfl rfl rfl (v_lss rfl rfl) ?_
          refine wl_v rfl rfl rfl (v_move rfl) ?_
          refine wl_guard rfl rfl rfl (fun g102 => ?_) (fun g102 => ?_)
          · have g102p := of_decide_eq_false g102
            refine wl_v rfl rfl rfl (v_fb (o2 := 1) fa25_1 rfl rfl) ?_
            refine wl_on' rfl rfl g102 ?_
            refine wl_v rfl rfl rfl (v_load one23 rfl (H.at (by repeat constructor) rfl)) ?_
            refine wl_on' rfl rfl g102 ?_
            refine wl_v rfl rfl rfl (v_move rfl) ?_
            refine wl_on' rfl rfl g102 ?_
            refine wl_v rfl rfl rfl (v_idx Try.underlying23 sz39 hG.ad rfl rfl (by omega) (by omega)) ?_
            refine wl_on' rfl rfl g102 ?_
            obtain ⟨B107, cp107, hc107, hl107, hr107⟩ := hG.atSlN (i := i) (by omega)
            refine wl_v rfl rfl rfl (v_load one39 rfl (H.cell (hc107))) ?_
            refine wl_on' rfl rfl g102 ?_
            refine wl_v rfl rfl rfl (v_move rfl) ?_
            refine wl_on' rfl rfl g102 ?_
            refine wl_v rfl rfl rfl (v_idx Try.underlying39 sz3 hr107.ad rfl rfl (by omega) (by omega)) ?_
            refine wl_on' rfl rfl g102 ?_
            refine wl_v rfl rfl rfl (v_load one3 rfl (H.cell (hr107.at1N (i := j) (by omega)))) ?_
            refine wl_on' rfl rfl g102 ?_
            refine wl_v rfl rfl rfl (v_geq rfl rfl) ?_
            refine wl_v rfl rfl rfl (v_pick_f rfl g102 rfl) ?_
            refine wl_nil ?_
            refine wc_cond rfl (fun c5 => ?_) (fun c5 => ?_)
            · have c5p := of_decide_eq_true c5
              refine wc_seq ?_
              refine wc_region ?_
              refine wl_v rfl rfl rfl (v_assign rfl) ?_
              refine wl_v rfl rfl rfl (v_assign rfl) ?_
              refine wl_nil ?_
              refine wc_ret ?_
              first
                | exact ⟨_, res2 rfl rfl rfl, none, 0, by rw [(by_f (fun h => of_ndec c0p h.1)).1, (by_f (fun h => of_ndec c0p h.1)).2]; rfl, by rw [(by_f (fun h => of_ndec c0p h.1)).1]; exact (H.nilrow 5 1).pm (.cons (.here _ _) (.nil _))⟩
                | (have hbad : ¬ ByOk t := fun h => by
                     have h1 := (h.2 i (by omega)).1 _ (getD_mem (z := mv0) (show j < (t.mv.getD i []).length by omega))
                     unfold okMv at h1
                     omega
                   exact ⟨_, res2 rfl rfl rfl, none, 0, by rw [(by_f hbad).1, (by_f hbad).2]; rfl, by rw [(by_f hbad).1]; exact (H.nilrow 5 1).pm (.cons (.here _ _) (.nil _))⟩)
                | (have hbad : ¬ ByOk t := fun h => by
                     have h1 := (h.2 i (by omega)).2 _ (getD_mem (z := 0) (show j < (t.go.getD i []).length by omega))
                     unfold okGo at h1
                     omega
                   exact ⟨_, res2 rfl rfl rfl, none, 0, by rw [(by_f hbad).1, (by_f hbad).2]; rfl, by rw [(by_f hbad).1]; exact (H.nilrow 5 1).pm (.cons (.here _ _) (.nil _))⟩)
                | (have hgood : ByOk t := ⟨⟨r1, r2, r3, r4⟩, hok⟩
                   exact ⟨_, res2 rfl rfl rfl, A4, cz4, by rw [(by_t hgood).1, (by_t hgood).2]; rfl, by rw [(by_t hgood).1]; exact H.pm (by repeat constructor)⟩)
            · have c5p := of_decide_eq_false c5
              have hog : okGo ((t.go.getD i []).getD j 0) := ⟨by omega, by omega⟩
              obtain ⟨ho1, ho2⟩ := hog
              have hgk' := take_ok 0 (show j < (t.go.getD i []).length by omega) hgk ⟨ho1, ho2⟩
              have hvx := vint5 (n := ((t.go.getD i []).getD j 0 + 1).toNat) (by omega)
              refine wc_skip ?_
              refine wc_region ?_
              refine wl_v rfl rfl rfl (v_move rfl) ?_
              refine wl_v rfl rfl rfl (v_fb (o2 := 1) fa25_1 rfl rfl) ?_
              refine wl_v rfl rfl rfl (v_load one23 rfl (H.at (by repeat constructor) rfl)) ?_
              refine wl_v rfl rfl rfl (v_move rfl) ?_
              refine wl_v rfl rfl rfl (v_idx Try.underlying23 sz39 hG.ad rfl rfl (by omega) (by omega)) ?_
              obtain ⟨B118, cp118, hc118, hl118, hr118⟩ := hG.atSlN (i := i) (by omega)
              refine wl_v rfl rfl rfl (v_load one39 rfl (H.cell (hc118))) ?_
              refine wl_v rfl rfl rfl (v_move rfl) ?_
              refine wl_v rfl rfl rfl (v_idx Try.underlying39 sz3 hr118.ad rfl rfl (by omega) (by omega)) ?_
              refine wl_v rfl rfl rfl (v_load one3 rfl (H.cell (hr118.at1N (i := j) (by omega)))) ?_
              refine wl_v rfl rfl rfl (v_addi rfl rfl (by omega)) ?_
              refine wl_call en53 rfl rfl (uint_callsI (by omega) (by omega)) ?_
              rintro _ w30 ⟨A123, c123, rfl, Hc⟩
              have H31 := H.call Hc
              refine wl_appR (f := fInt .u8) (xs := (headB t ++ rowsB t i ++ mvsB (t.mv.getD i []) ++ gosB ((t.go.getD i []).take j))) (ys := (vint ((t.go.getD i []).getD j 0 + 1).toNat)) H31 (fun v' => (by repeat constructor)) rfl Try.underlying64 info5 rfl (by decide) rfl rfl (H31.rrd (f := fInt .u8) (e := 5) (A := A123) (xs := (vint ((t.go.getD i []).getD j 0 + 1).toNat)) (by repeat constructor)) (by first | omega | (simp only [List.length_append] at *; omega)) (by decide) ?_
              intro A124 c124 w32 H32 hs32
              refine wl_v rfl rfl rfl (v_assign rfl) ?_
              refine wl_nil ?_
              refine wc_region ?_
              refine wl_v rfl rfl rfl (v_move rfl) ?_
              refine wl_v rfl rfl rfl (v_addi rfl rfl (by omega)) ?_
              refine wl_v rfl rfl rfl (v_assign rfl) ?_
              refine wl_nil ?_
              have e2 : (headB t ++ rowsB t i ++ mvsB (t.mv.getD i []) ++ gosB ((t.go.getD i []).take (j + 1))) = (headB t ++ rowsB t i ++ mvsB (t.mv.getD i []) ++ gosB ((t.go.getD i []).take j)) ++ vint ((t.go.getD i []).getD j 0 + 1).toNat := by rw [gosB_succ (by omega)]; simp only [List.append_assoc]
              exact ⟨(j + 1, A124, c124), by rw [e2]; exact (sc rfl (sc rfl (sc rfl (sc rfl (sn _))))), ⟨⟨by dsimp only; omega, hgk'⟩, by rw [e2]; exact H32.pm (by repeat constructor)⟩, by dsimp only; omega⟩
          · have g102p := of_decide_eq_true g102
            refine wl_off rfl rfl g102 rfl ?_
            refine wl_off rfl rfl g102 rfl ?_
            refine wl_off rfl rfl g102 rfl ?_
            refine wl_off rfl rfl g102 rfl ?_
            refine wl_off rfl rfl g102 rfl ?_
            refine wl_off rfl rfl g102 rfl ?_
            refine wl_off rfl rfl g102 rfl ?_
            refine wl_off rfl rfl g102 rfl ?_
            refine wl_v rfl rfl rfl (v_pick_t rfl g102 rfl) ?_
            refine wl_nil ?_
            refine wc_cond_t rfl ?_
            refine wc_seq ?_
            refine wc_region ?_
            refine wl_v rfl rfl rfl (v_assign rfl) ?_
            refine wl_v rfl rfl rfl (v_assign rfl) ?_
            refine wl_nil ?_
            refine wc_ret ?_
            first
              | exact ⟨_, res2 rfl rfl rfl, none, 0, by rw [(by_f (fun h => of_ndec c0p h.1)).1, (by_f (fun h => of_ndec c0p h.1)).2]; rfl, by rw [(by_f (fun h => of_ndec c0p h.1)).1]; exact (H.nilrow 5 1).pm (.cons (.here _ _) (.nil _))⟩
              | (have hbad : ¬ ByOk t := fun h => by
                   have h1 := (h.2 i (by omega)).1 _ (getD_mem (z := mv0) (show j < (t.mv.getD i []).length by omega))
                   unfold okMv at h1
                   omega
                 exact ⟨_, res2 rfl rfl rfl, none, 0, by rw [(by_f hbad).1, (by_f hbad).2]; rfl, by rw [(by_f hbad).1]; exact (H.nilrow 5 1).pm (.cons (.here _ _) (.nil _))⟩)
              | (have hbad : ¬ ByOk t := fun h => by
                   have h1 := (h.2 i (by omega)).2 _ (getD_mem (z := 0) (show j < (t.go.getD i []).length by omega))
                   unfold okGo at h1
                   omega
                 exact ⟨_, res2 rfl rfl rfl, none, 0, by rw [(by_f hbad).1, (by_f hbad).2]; rfl, by rw [(by_f hbad).1]; exact (H.nilrow 5 1).pm (.cons (.here _ _) (.nil _))⟩)
              | (have hgood : ByOk t := ⟨⟨r1, r2, r3, r4⟩, hok⟩
                 exact ⟨_, res2 rfl rfl rfl, A4, cz4, by rw [(by_t hgood).1, (by_t hgood).2]; rfl, by rw [(by_t hgood).1]; exact H.pm (by repeat constructor)⟩)
        · have c4p := of_decide_eq_false c4
          rw [take_all c4p] at H hgk ⊢
          refine wc_exit ?_
          refine wc_region ?_
          refine wl_v rfl rfl rfl (v_move rfl) ?_
          refine wl_v rfl rfl rfl (v_addi rfl rfl (by omega)) ?_
          refine wl_v rfl rfl rfl (v_assign rfl) ?_
          refine wl_nil ?_
          have e0 : (headB t ++ rowsB t (i + 1)) = (headB t ++ rowsB t i ++ mvsB (t.mv.getD i []) ++ gosB (t.go.getD i [])) := by rw [rowsB_succ]; simp only [List.append_assoc]
          exact ⟨(i + 1, A4, cz4), by rw [e0]; exact (sc rfl (sc rfl (sc rfl (sn _)))), ⟨⟨by dsimp only; omega, upto_succ hok ⟨hrow, hgk⟩⟩, by rw [e0]; exact H.pm (by repeat constructor)⟩, by dsimp only; omega⟩
    · have c1p := of_decide_eq_false c1
      obtain rfl : i = t.mv.length := by omega
      refine wc_exit ?_
      refine wc_seq ?_
      refine wc_region ?_
      refine wl_v rfl rfl rfl (v_move rfl) ?_
      refine wl_v rfl rfl rfl (v_assign rfl) ?_
      refine wl_v rfl rfl rfl (v_assign rfl) ?_
      refine wl_nil ?_
      refine wc_ret ?_
      first
        | exact ⟨_, res2 rfl rfl rfl, none, 0, by rw [(by_f (fun h => of_ndec c0p h.1)).1, (by_f (fun h => of_ndec c0p h.1)).2]; rfl, by rw [(by_f (fun h => of_ndec c0p h.1)).1]; exact (H.nilrow 5 1).pm (.cons (.here _ _) (.nil _))⟩
        | (have hbad : ¬ ByOk t := fun h => by
             have h1 := (h.2 i (by omega)).1 _ (getD_mem (z := mv0) (show j < (t.mv.getD i []).length by omega))
             unfold okMv at h1
             omega
           exact ⟨_, res2 rfl rfl rfl, none, 0, by rw [(by_f hbad).1, (by_f hbad).2]; rfl, by rw [(by_f hbad).1]; exact (H.nilrow 5 1).pm (.cons (.here _ _) (.nil _))⟩)
        | (have hbad : ¬ ByOk t := fun h => by
             have h1 := (h.2 i (by omega)).2 _ (getD_mem (z := 0) (show j < (t.go.getD i []).length by omega))
             unfold okGo at h1
             omega
           exact ⟨_, res2 rfl rfl rfl, none, 0, by rw [(by_f hbad).1, (by_f hbad).2]; rfl, by rw [(by_f hbad).1]; exact (H.nilrow 5 1).pm (.cons (.here _ _) (.nil _))⟩)
        | (have hgood : ByOk t := ⟨⟨r1, r2, r3, r4⟩, hok⟩
           exact ⟨_, res2 rfl rfl rfl, A4, cz4, by rw [(by_t hgood).1, (by_t hgood).2]; rfl, by rw [(by_t hgood).1]; exact H.pm (by repeat constructor)⟩)
end Go.Proofs.Ytkpehkadammppaa.BytesW

/-! The table of one state. -/
namespace Go.Proofs.YtkpehkadammppaaFx
open Go Go.RowKit
theorem Holds.rawAt {W0 w : World} {L : List Ch} {e sz n c N : Nat} {A : Option Addr} {cs : List Value} (H : Holds W0 L w) (U : Upd L (Raw e sz (.slice A n c) N cs) (Raw e sz (.slice A n c) N cs) L) : ∀ j u, cs[j]? = some u → w.cell? ((adr A).add j) = some u := by
  obtain ⟨A', c', h, _, _, hc⟩ := own_slice (H.raw U)
  injection h with h1 _ _
  subst h1
  exact hc
/-- A row of one row, opened. -/
theorem Holds.rr1 {α : Type} {f : Fk α} {W0 w : World} {L : List Ch} {e e2 : Nat} {v : Value} {xs : List α} (H : Holds W0 (RR f e e2 v [xs] :: L) w) : ∃ A c B c', v = .slice A 1 c ∧ (0 < 1 → A = some (adr A)) ∧ Holds W0 (Raw e 1 (.slice A 1 c) 1 [.slice B xs.length c'] :: Row f e2 (.slice B xs.length c') xs :: L) w := by
  obtain ⟨vs, hv, H2⟩ := H.rrOpen
  match vs, hv with
  | [u], _ =>
    have H3 : Holds W0 (Raw e 1 v 1 [u] :: Row f e2 u xs :: L) w := H2
    obtain ⟨B, c', rfl⟩ := H3.rform (f := f) (e := e2) (.there _ (.here _ _ _))
    obtain ⟨A, c, rfl, _, hA, _⟩ := own_slice (H3.raw (.here _ _ _))
    exact ⟨A, c, B, c', rfl, hA, H3⟩
theorem rd_blk {α : Type} {f : Fk α} {W0 w : World} {L : List Ch} {b e : Nat} {xs : List α} {cs : List Value} (H : Holds W0 L w) (U : Upd L (Blk b e cs) (Blk b e cs) L) (hcs : cs = xs.flatMap f.enc) : Rd f.kn w (some ⟨b, 0, none⟩) xs :=
  ⟨fun _ => rfl, fun j x hx => ⟨f.enc x, rfl, fun i u hu => H.ats U _ u (by rw [hcs]; exact flat_get f xs j x hx i u hu)⟩⟩
theorem rd_one {α : Type} {d : Kn α} {W0 w : World} {L : List Ch} {b e c : Nat} {A : Option Addr} {xs : List α} (H : Holds W0 L w) (U : Upd L (Blk b e [.slice A xs.length c]) (Blk b e [.slice A xs.length c]) L) (hc : xs.length ≤ c) (hr : Rd d w A xs) : Rd d.sl w (some ⟨b, 0, none⟩) [xs] :=
  ⟨fun _ => rfl, fun j x hx => by
    cases j with
    | zero =>
      simp only [List.getElem?_cons_zero, Option.some.injEq] at hx
      subst hx
      exact ⟨_, ⟨A, c, rfl, hc, hr⟩, fun i u hu => by
        cases i with
        | zero =>
          simp only [List.getElem?_cons_zero, Option.some.injEq] at hu
          subst hu
          exact H.ats U 0 _ rfl
        | succ i => simp at hu⟩
    | succ j => simp at hx⟩
theorem Holds.pk {W0 w : World} {a : PkA} {p : Pk} (H : Holds W0 (OwnP a p) w) : p.rd w a := by
  unfold OwnP at H
  exact ⟨H.rrd (by repeat constructor), H.rrd (by repeat constructor), H.rrd (by repeat constructor), H.rrd (by repeat constructor), H.rrd (by repeat constructor), H.rrd (by repeat constructor), H.rrd (by repeat constructor)⟩
def aT : Tb := ⟨[[⟨2, 0⟩, ⟨0, 0⟩, ⟨2, 0⟩]], [[0]]⟩
theorem aT_ok : aT.ok := ⟨by decide, by decide, fun r hr => by
    have : r = [⟨2, 0⟩, ⟨0, 0⟩, ⟨2, 0⟩] := by simpa [aT] using hr
    subst this
    exact ⟨by decide, fun m hm => by simp only [List.mem_cons, List.not_mem_nil, or_false] at hm; rcases hm with rfl | rfl | rfl <;> (unfold I64; decide)⟩, fun r hr => by
    have : r = [0] := by simpa [aT] using hr
    subst this
    exact ⟨by decide, fun m hm => by simp at hm; subst hm; unfold I64; decide⟩⟩
theorem aT_rd {W0 w : World} {b11 b12 b13 b14 : Nat} (H : Holds W0 [Blk b12 38 [.slice (some ⟨b11, 0, none⟩) 3 3], Blk b11 48 [.int .i64 2, .int .i64 0, .int .i64 0, .int .i64 0, .int .i64 2, .int .i64 0], Blk b14 39 [.slice (some ⟨b13, 0, none⟩) 1 1], Blk b13 3 [.int .i64 0]] w) : aT.rd w (some ⟨b12, 0, none⟩) (some ⟨b14, 0, none⟩) :=
  ⟨rd_one (A := some ⟨b11, 0, none⟩) (c := 3) (e := 38) H (.here _ _ _) (by decide) (rd_blk (f := fMv) (e := 48) H (.there _ (.here _ _ _)) rfl), rd_one (A := some ⟨b13, 0, none⟩) (c := 1) (e := 39) H (.there _ (.there _ (.here _ _ _))) (by decide) (rd_blk (f := fInt .i64) (e := 3) H (.there _ (.there _ (.there _ (.here _ _ _)))) rfl)⟩
theorem aT_rect : Rect aT := ⟨by decide, by decide, by decide, fun s hs => by
  have : s = 0 := by have : aT.mv.length = 1 := rfl; omega
  subst this
  exact ⟨rfl, rfl⟩⟩
def aD : Tb := ⟨[[⟨2, 0⟩, ⟨2, 0⟩, ⟨2, 0⟩]], [[0]]⟩
theorem aT_df : dfAns aT = aD ∧ dfErr aT = 0 := by
  obtain ⟨h1, h2⟩ := dfAns_t (dec_t aT_rect)
  rw [h1, h2]
  exact ⟨by decide, rfl⟩
theorem aT_good : TGood aT 3 1 1 := ⟨by decide, by decide, by decide, fun s hs => by
  have : s = 0 := by have : aT.mv.length = 1 := rfl; omega
  subst this
  refine ⟨rfl, rfl, fun j hj => ?_, fun j hj => ?_⟩
  · have hj : j < 3 := hj
    rcases (by omega : j = 0 ∨ j = 1 ∨ j = 2) with rfl | rfl | rfl
    · exact .inr (.inl ⟨rfl, by decide, by decide⟩)
    · exact .inr (.inr ⟨.inl rfl, rfl⟩)
    · exact .inr (.inl ⟨rfl, by decide, by decide⟩)
  · have hj : j < 1 := hj
    have : j = 0 := by omega
    subst this
    exact ⟨by decide, by decide⟩⟩
theorem aT_check : checkF aT 3 1 1 = 0 := checkF_ok (by omega) aT_good
def aP : Pk := packF aT 3 1 [0] [0]
theorem aP_is : pkAns aT 3 1 1 [0] [0] = aP := by rw [pkAns, if_pos aT_check]; rfl
theorem aP_mv : lookMv aP 0 2 = ⟨2, 0⟩ := by decide
theorem aP_go : lookGo aP 0 0 = 0 := by decide
theorem aP_ok : aP.ok := ⟨by unfold I64; decide, by unfold I64; decide, by decide, by decide, by decide, by decide, by decide, by decide, by decide, fun x hx => by
  have : aP.base = [0] := by decide
  rw [this] at hx; simp at hx; subst hx; unfold I64; decide, fun x hx => by
  have : aP.gbase = [0] := by decide
  rw [this] at hx; simp at hx; subst hx; unfold I64; decide⟩
end Go.Proofs.YtkpehkadammppaaFx

/-! Packed tables unpacked: plain definitions. -/
namespace Go.Proofs.YtkpehkadammppaaFx
open Go Go.RowKit
def mvRow (p : Pk) (s j : Nat) : List Mv := (List.range j).map fun (k : Nat) => lookMv p s k
def goRw (p : Pk) (s j : Nat) : List Int := (List.range j).map fun (k : Nat) => lookGo p s k
theorem mvRow_succ (p : Pk) (s j : Nat) : mvRow p s (j + 1) = mvRow p s j ++ [lookMv p s j] := by simp [mvRow, List.range_succ]
theorem goRw_succ (p : Pk) (s j : Nat) : goRw p s (j + 1) = goRw p s j ++ [lookGo p s j] := by simp [goRw, List.range_succ]
theorem mvRow_len (p : Pk) (s j : Nat) : (mvRow p s j).length = j := by simp [mvRow]
theorem goRw_len (p : Pk) (s j : Nat) : (goRw p s j).length = j := by simp [goRw]
def mvs (p : Pk) (i : Nat) : List (List Mv) := (List.range i).map fun (s : Nat) => mvRow p s p.kinds.toNat
def gos (p : Pk) (i : Nat) : List (List Int) := (List.range i).map fun (s : Nat) => goRw p s p.rules.toNat
theorem mvs_succ (p : Pk) (i : Nat) : mvs p (i + 1) = mvs p i ++ [mvRow p i p.kinds.toNat] := by simp [mvs, List.range_succ]
theorem gos_succ (p : Pk) (i : Nat) : gos p (i + 1) = gos p i ++ [goRw p i p.rules.toNat] := by simp [gos, List.range_succ]
theorem mvs_len (p : Pk) (i : Nat) : (mvs p i).length = i := by simp [mvs]
theorem gos_len (p : Pk) (i : Nat) : (gos p i).length = i := by simp [gos]
def mvFill (p : Pk) (s j : Nat) : List Mv := mvRow p s j ++ List.replicate (p.kinds.toNat - j) mv0
def goFill (p : Pk) (s j : Nat) : List Int := goRw p s j ++ List.replicate (p.rules.toNat - j) 0
theorem mvFill_len {p : Pk} {s j : Nat} (h : j ≤ p.kinds.toNat) : (mvFill p s j).length = p.kinds.toNat := by
  simp only [mvFill, List.length_append, mvRow_len, List.length_replicate]; omega
theorem goFill_len {p : Pk} {s j : Nat} (h : j ≤ p.rules.toNat) : (goFill p s j).length = p.rules.toNat := by
  simp only [goFill, List.length_append, goRw_len, List.length_replicate]; omega
theorem mvFill_next {p : Pk} {s j : Nat} (h : j < p.kinds.toNat) : mvFill p s (j + 1) = (mvFill p s j).set j (lookMv p s j) := by
  unfold mvFill
  rw [List.set_append_right _ _ (by rw [mvRow_len]; exact Nat.le_refl _), mvRow_len, Nat.sub_self, show p.kinds.toNat - j = (p.kinds.toNat - (j + 1)) + 1 by omega, List.replicate_succ, List.set_cons_zero, mvRow_succ, List.append_assoc]
  rfl
theorem goFill_next {p : Pk} {s j : Nat} (h : j < p.rules.toNat) : goFill p s (j + 1) = (goFill p s j).set j (lookGo p s j) := by
  unfold goFill
  rw [List.set_append_right _ _ (by rw [goRw_len]; exact Nat.le_refl _), goRw_len, Nat.sub_self, show p.rules.toNat - j = (p.rules.toNat - (j + 1)) + 1 by omega, List.replicate_succ, List.set_cons_zero, goRw_succ, List.append_assoc]
  rfl
theorem mvFill_zero (p : Pk) (s : Nat) : mvFill p s 0 = List.replicate p.kinds.toNat mv0 := rfl
theorem goFill_zero (p : Pk) (s : Nat) : goFill p s 0 = List.replicate p.rules.toNat 0 := rfl
theorem mvFill_all (p : Pk) (s : Nat) : mvFill p s p.kinds.toNat = mvRow p s p.kinds.toNat := by simp [mvFill]
theorem goFill_all (p : Pk) (s : Nat) : goFill p s p.rules.toNat = goRw p s p.rules.toNat := by simp [goFill]
def UpOk (p : Pk) : Prop := 1 ≤ p.dflt.length ∧ p.dflt.length ≤ 4096 ∧ 2 ≤ p.kinds ∧ p.kinds ≤ 1024 ∧ 0 ≤ p.rules ∧ p.rules ≤ 2048 ∧ p.base.length = p.dflt.length ∧ p.gbase.length = p.dflt.length
noncomputable def upAns (p : Pk) : Tb := if dec (UpOk p) then ⟨mvs p p.dflt.length, gos p p.dflt.length⟩ else ⟨[], []⟩
noncomputable def upErr (p : Pk) : Int := if dec (UpOk p) then 0 else 170
theorem up_t {p : Pk} (h : UpOk p) : upAns p = ⟨mvs p p.dflt.length, gos p p.dflt.length⟩ ∧ upErr p = 0 := by
  rw [upAns, upErr, dec_t h]; exact ⟨rfl, rfl⟩
theorem up_f {p : Pk} (h : ¬ UpOk p) : upAns p = ⟨[], []⟩ ∧ upErr p = 170 := by
  rw [upAns, upErr, dec_f h]; exact ⟨rfl, rfl⟩
end Go.Proofs.YtkpehkadammppaaFx
