/- Tables compared; tables whose rows are as long as the first. -/
import Derived.Test.YtkpehkadammppaaProg
import Derived.Test.YtkpehkadammppaaTb
set_option linter.unusedVariables false
set_option linter.unusedSimpArgs false
namespace Go.Proofs.Ytkpehkadammppaa.TabA
open Go Go.RowKit Go.Proofs.YtkpehkadammppaaFx 
theorem agg48 : Agg Try.prog 48 2 := agg_of Try.underlying48 (by kernel_rfl)
theorem en39 : Enters Try.prog 39 := enters Try.func39 (by kernel_rfl) rfl
theorem en40 : Enters Try.prog 40 := enters Try.func40 (by kernel_rfl) rfl
theorem eqm48 : EqlMv Try.prog 48 := eql_mv (e := 3) Try.underlying48 (by kernel_rfl) (by kernel_rfl) Try.underlying3 rfl rfl
theorem fa25_0 : FieldAt Try.prog 25 0 0 := field_at (sz := 0) Try.underlying25 rfl (by kernel_rfl) rfl
theorem fa25_1 : FieldAt Try.prog 25 1 1 := field_at (sz := 0) Try.underlying25 rfl (by kernel_rfl) rfl
theorem mixed : Try.prog.follows .mixedOrders = true := by kernel_rfl
theorem one22 : One Try.prog 22 := one_of Try.underlying22 rfl (by kernel_rfl)
theorem one23 : One Try.prog 23 := one_of Try.underlying23 rfl (by kernel_rfl)
theorem one3 : One Try.prog 3 := one_of Try.underlying3 rfl (by kernel_rfl)
theorem one38 : One Try.prog 38 := one_of Try.underlying38 rfl (by kernel_rfl)
theorem one39 : One Try.prog 39 := one_of Try.underlying39 rfl (by kernel_rfl)
theorem sz3 : ∀ W, (sizeOf 3).run Try.prog W = .ok 1 W := size_of (by kernel_rfl)
theorem sz38 : ∀ W, (sizeOf 38).run Try.prog W = .ok 1 W := size_of (by kernel_rfl)
theorem sz39 : ∀ W, (sizeOf 39).run Try.prog W = .ok 1 W := size_of (by kernel_rfl)
theorem sz48 : ∀ W, (sizeOf 48).run Try.prog W = .ok 2 W := size_of (by kernel_rfl)

set_option maxRecDepth 100000 in
theorem sameInts_calls {A B : Option Addr} {ca cb : Nat} {xs ys : List Int} {w : World} (hx : Rd (kInt .i64) w A xs) (hy : Rd (kInt .i64) w B ys) (hm : xs.length ≤ 1099511627776) (hn : ys.length ≤ 1099511627776) :
    Calls Try.prog 40 #[.slice A xs.length ca, .slice B ys.length cb] w fun e w' => ∃ v, e = .returned v ∧ v = .bool (decide (xs = ys)) ∧ Holds w [] w' := by
  refine calls_of Try.func40 rfl Try.ntmps40 rfl ?_
  have H := Holds.start w
  refine wc_seq ?_
  refine wc_region ?_
  refine wl_v rfl rfl rfl (v_assign rfl) ?_
  refine wl_nil ?_
  refine wc_seq ?_
  refine wc_seq ?_
  refine wc_region ?_
  refine wl_v rfl rfl rfl (v_move rfl) ?_
  refine wl_v rfl rfl rfl (v_len Try.underlying39 rfl) ?_
  refine wl_v rfl rfl rfl (v_move rfl) ?_
  refine wl_v rfl rfl rfl (v_len Try.underlying39 rfl) ?_
  refine wl_v rfl rfl rfl (v_neq rfl rfl) ?_
  refine wl_nil ?_
  refine wc_cond rfl (fun c0 => ?_) (fun c0 => ?_)
  · have c0p := of_nd_t c0
    refine wc_seq ?_
    refine wc_region ?_
    refine wl_v rfl rfl rfl (v_assign rfl) ?_
    refine wl_nil ?_
    refine wc_ret ?_
    first
      | exact ⟨_, res1 rfl rfl, congrArg Value.bool (decide_eq_true (eq_done ha c0p c1p)).symm, H⟩
      | exact ⟨_, res1 rfl rfl, congrArg Value.bool (decide_eq_false (ne_len c0p)).symm, H⟩
      | exact ⟨_, res1 rfl rfl, congrArg Value.bool (decide_eq_false (ne_at (i := i) (z := 0) c2p)).symm, H⟩
  · have c0p := of_nd_f c0
    refine wc_skip ?_
    refine wc_seq ?_
    refine wc_seq ?_
    refine wc_region ?_
    refine wl_v rfl rfl rfl (v_assign rfl) ?_
    refine wl_nil ?_
    refine wc_block ?_
    refine wc_loop (σ := Nat) (fun s => [(0, .slice A xs.length ca), (1, .slice B ys.length cb), (5, .int .i64 s)]) (fun s W => s ≤ xs.length ∧ xs.take s = ys.take s ∧ Holds w [] W) (fun s => xs.length - s) 0 (sc rfl (sc rfl (sc rfl (sn _)))) ⟨Nat.zero_le _, rfl, H⟩ ?_
    rintro i W0 ⟨hi, ha, H⟩
    refine wc_seq ?_
    refine wc_seq ?_
    refine wc_region ?_
    refine wl_v rfl rfl rfl (v_move rfl) ?_
    refine wl_v rfl rfl rfl (v_move rfl) ?_
    refine wl_v rfl rfl rfl (v_len Try.underlying39 rfl) ?_
    refine wl_v rfl rfl rfl (v_lss rfl rfl) ?_
    refine wl_nil ?_
    refine wc_cond rfl (fun c1 => ?_) (fun c1 => ?_)
    · have c1p := of_decide_eq_true c1
      refine wc_skip ?_
      refine wc_seq ?_
      refine wc_block ?_
      refine wc_seq ?_
      refine wc_still mixed (by kernel_rfl) ?_
      have Hd := H.drew
      refine ws_v rfl rfl rfl (v_move rfl) ?_
      refine ws_v rfl rfl rfl (v_move rfl) ?_
      refine ws_v rfl rfl rfl (v_idx Try.underlying39 sz3 hx.ad rfl rfl (by omega) (by omega)) ?_
      refine ws_v rfl rfl rfl (v_load one3 rfl (Hd.cell (hx.at1N (i := i) (by omega)))) ?_
      refine ws_v rfl rfl rfl (v_move rfl) ?_
      refine ws_v rfl rfl rfl (v_move rfl) ?_
      refine ws_v rfl rfl rfl (v_idx Try.underlying39 sz3 hy.ad rfl rfl (by omega) (by omega)) ?_
      refine ws_v rfl rfl rfl (v_load one3 rfl (Hd.cell (hy.at1N (i := i) (by omega)))) ?_
      refine ws_v rfl rfl rfl (v_neq rfl rfl) ?_
      refine ws_nil ?_
      refine wc_cond rfl (fun c2 => ?_) (fun c2 => ?_)
      · have c2p := of_nd_t c2
        refine wc_seq ?_
        refine wc_region ?_
        refine wl_v rfl rfl rfl (v_assign rfl) ?_
        refine wl_nil ?_
        refine wc_ret ?_
        first
          | exact ⟨_, res1 rfl rfl, congrArg Value.bool (decide_eq_true (eq_done ha c0p c1p)).symm, Hd⟩
          | exact ⟨_, res1 rfl rfl, congrArg Value.bool (decide_eq_false (ne_len c0p)).symm, Hd⟩
          | exact ⟨_, res1 rfl rfl, congrArg Value.bool (decide_eq_false (ne_at (i := i) (z := 0) c2p)).symm, Hd⟩
      · have c2p := of_nd_f c2
        refine wc_skip ?_
        refine wc_region ?_
        refine wl_v rfl rfl rfl (v_move rfl) ?_
        refine wl_v rfl rfl rfl (v_addi rfl rfl (by omega)) ?_
        refine wl_v rfl rfl rfl (v_assign rfl) ?_
        refine wl_nil ?_
        exact ⟨i + 1, (sc rfl (sc rfl (sc rfl (sn _)))), ⟨by omega, eq_step 0 ha c0p (by omega) c2p, Hd⟩, by omega⟩
    · have c1p := of_decide_eq_false c1
      refine wc_exit ?_
      refine wc_seq ?_
      refine wc_region ?_
      refine wl_v rfl rfl rfl (v_assign rfl) ?_
      refine wl_nil ?_
      refine wc_ret ?_
      first
        | exact ⟨_, res1 rfl rfl, congrArg Value.bool (decide_eq_true (eq_done ha c0p c1p)).symm, H⟩
        | exact ⟨_, res1 rfl rfl, congrArg Value.bool (decide_eq_false (ne_len c0p)).symm, H⟩
        | exact ⟨_, res1 rfl rfl, congrArg Value.bool (decide_eq_false (ne_at (i := i) (z := 0) c2p)).symm, H⟩

set_option maxRecDepth 100000 in
theorem sameMoves_calls {A B : Option Addr} {ca cb : Nat} {xs ys : List Mv} {w : World} (hx : Rd fMv.kn w A xs) (hy : Rd fMv.kn w B ys) (hm : xs.length ≤ 1099511627776) (hn : ys.length ≤ 1099511627776) :
    Calls Try.prog 39 #[.slice A xs.length ca, .slice B ys.length cb] w fun e w' => ∃ v, e = .returned v ∧ v = .bool (decide (xs = ys)) ∧ Holds w [] w' := by
  refine calls_of Try.func39 rfl Try.ntmps39 rfl ?_
  have H := Holds.start w
  refine wc_seq ?_
  refine wc_region ?_
  refine wl_v rfl rfl rfl (v_assign rfl) ?_
  refine wl_nil ?_
  refine wc_seq ?_
  refine wc_seq ?_
  refine wc_region ?_
  refine wl_v rfl rfl rfl (v_move rfl) ?_
  refine wl_v rfl rfl rfl (v_len Try.underlying38 rfl) ?_
  refine wl_v rfl rfl rfl (v_move rfl) ?_
  refine wl_v rfl rfl rfl (v_len Try.underlying38 rfl) ?_
  refine wl_v rfl rfl rfl (v_neq rfl rfl) ?_
  refine wl_nil ?_
  refine wc_cond rfl (fun c0 => ?_) (fun c0 => ?_)
  · have c0p := of_nd_t c0
    refine wc_seq ?_
    refine wc_region ?_
    refine wl_v rfl rfl rfl (v_assign rfl) ?_
    refine wl_nil ?_
    refine wc_ret ?_
    first
      | exact ⟨_, res1 rfl rfl, congrArg Value.bool (decide_eq_true (eq_done ha c0p c1p)).symm, H⟩
      | exact ⟨_, res1 rfl rfl, congrArg Value.bool (decide_eq_false (ne_len c0p)).symm, H⟩
      | exact ⟨_, res1 rfl rfl, congrArg Value.bool (decide_eq_false (ne_at (i := i) (z := mv0) c2p)).symm, H⟩
  · have c0p := of_nd_f c0
    refine wc_skip ?_
    refine wc_seq ?_
    refine wc_seq ?_
    refine wc_region ?_
    refine wl_v rfl rfl rfl (v_assign rfl) ?_
    refine wl_nil ?_
    refine wc_block ?_
    refine wc_loop (σ := Nat) (fun s => [(0, .slice A xs.length ca), (1, .slice B ys.length cb), (5, .int .i64 s)]) (fun s W => s ≤ xs.length ∧ xs.take s = ys.take s ∧ Holds w [] W) (fun s => xs.length - s) 0 (sc rfl (sc rfl (sc rfl (sn _)))) ⟨Nat.zero_le _, rfl, H⟩ ?_
    rintro i W0 ⟨hi, ha, H⟩
    refine wc_seq ?_
    refine wc_seq ?_
    refine wc_region ?_
    refine wl_v rfl rfl rfl (v_move rfl) ?_
    refine wl_v rfl rfl rfl (v_move rfl) ?_
    refine wl_v rfl rfl rfl (v_len Try.underlying38 rfl) ?_
    refine wl_v rfl rfl rfl (v_lss rfl rfl) ?_
    refine wl_nil ?_
    refine wc_cond rfl (fun c1 => ?_) (fun c1 => ?_)
    · have c1p := of_decide_eq_true c1
      refine wc_skip ?_
      refine wc_seq ?_
      refine wc_block ?_
      refine wc_seq ?_
      refine wc_still mixed (by kernel_rfl) ?_
      have Hd := H.drew
      refine ws_v rfl rfl rfl (v_move rfl) ?_
      refine ws_v rfl rfl rfl (v_move rfl) ?_
      refine ws_v rfl rfl rfl (v_idx Try.underlying38 sz48 hx.ad rfl rfl (by omega) (by omega)) ?_
      refine ws_v rfl rfl rfl (v_loadN (cs := fMv.enc _) agg48 rfl rfl (fun k u hu => Hd.cell (hx.atN (i := i) (k := k) mv0 (by omega) hu))) ?_
      refine ws_v rfl rfl rfl (v_move rfl) ?_
      refine ws_v rfl rfl rfl (v_move rfl) ?_
      refine ws_v rfl rfl rfl (v_idx Try.underlying38 sz48 hy.ad rfl rfl (by omega) (by omega)) ?_
      refine ws_v rfl rfl rfl (v_loadN (cs := fMv.enc _) agg48 rfl rfl (fun k u hu => Hd.cell (hy.atN (i := i) (k := k) mv0 (by omega) hu))) ?_
      refine ws_v rfl rfl rfl (v_neqm  eqm48 rfl rfl) ?_
      refine ws_nil ?_
      refine wc_cond rfl (fun c2 => ?_) (fun c2 => ?_)
      · have c2p := of_nd_t c2
        refine wc_seq ?_
        refine wc_region ?_
        refine wl_v rfl rfl rfl (v_assign rfl) ?_
        refine wl_nil ?_
        refine wc_ret ?_
        first
          | exact ⟨_, res1 rfl rfl, congrArg Value.bool (decide_eq_true (eq_done ha c0p c1p)).symm, Hd⟩
          | exact ⟨_, res1 rfl rfl, congrArg Value.bool (decide_eq_false (ne_len c0p)).symm, Hd⟩
          | exact ⟨_, res1 rfl rfl, congrArg Value.bool (decide_eq_false (ne_at (i := i) (z := mv0) c2p)).symm, Hd⟩
      · have c2p := of_nd_f c2
        refine wc_skip ?_
        refine wc_region ?_
        refine wl_v rfl rfl rfl (v_move rfl) ?_
        refine wl_v rfl rfl rfl (v_addi rfl rfl (by omega)) ?_
        refine wl_v rfl rfl rfl (v_assign rfl) ?_
        refine wl_nil ?_
        exact ⟨i + 1, (sc rfl (sc rfl (sc rfl (sn _)))), ⟨by omega, eq_step mv0 ha c0p (by omega) c2p, Hd⟩, by omega⟩
    · have c1p := of_decide_eq_false c1
      refine wc_exit ?_
      refine wc_seq ?_
      refine wc_region ?_
      refine wl_v rfl rfl rfl (v_assign rfl) ?_
      refine wl_nil ?_
      refine wc_ret ?_
      first
        | exact ⟨_, res1 rfl rfl, congrArg Value.bool (decide_eq_true (eq_done ha c0p c1p)).symm, H⟩
        | exact ⟨_, res1 rfl rfl, congrArg Value.bool (decide_eq_false (ne_len c0p)).symm, H⟩
        | exact ⟨_, res1 rfl rfl, congrArg Value.bool (decide_eq_false (ne_at (i := i) (z := mv0) c2p)).symm, H⟩

set_option maxRecDepth 100000 in
theorem same_calls {A B A2 B2 : Option Addr} {ca cb ca2 cb2 : Nat} {s1 s2 : Tb} {w : World} (hx : s1.rd w A B) (hy : s2.rd w A2 B2) (hk : s1.ok) (hk2 : s2.ok) :
    Calls Try.prog 14 #[s1.val A B ca cb, s2.val A2 B2 ca2 cb2] w fun e w' => ∃ v, e = .returned v ∧ v = .bool (decide (s1 = s2)) ∧ Holds w [] w' := by
  have hM := hx.m
  have hG := hx.g
  have hM2 := hy.m
  have hG2 := hy.g
  have q1 := hk.m'
  have q2 := hk.g'
  have q3 := hk2.m'
  have q4 := hk2.g'
  have hX : ∀ {p q : Tb}, p = q → p.mv = q.mv ∧ p.go = q.go := fun h => ⟨congrArg _ h, congrArg _ h⟩
  have hY : ∀ {p q : Tb}, p.mv = q.mv → p.go = q.go → p = q := fun {p q} h1 h2 => by cases p; cases q; simp_all
  refine calls_of Try.func14 rfl Try.ntmps14 rfl ?_
  have H := Holds.start w
  refine wc_seq ?_
  refine wc_region ?_
  refine wl_box (cs := [_, _]) H rfl rfl rfl ?_
  intro b2 w1 hb2 H2
  refine wl_box (cs := [_, _]) H2 rfl rfl rfl ?_
  intro b3 w3 hb3 H4
  refine wl_v rfl rfl rfl (v_assign rfl) ?_
  refine wl_nil ?_
  refine wc_seq ?_
  refine wc_seq ?_
  refine wc_region ?_
  refine wl_v rfl rfl rfl (v_fb (o2 := 0) fa25_0 rfl rfl) ?_
  refine wl_v rfl rfl rfl (v_load one22 rfl (H4.at (by repeat constructor) rfl)) ?_
  refine wl_v rfl rfl rfl (v_len Try.underlying22 rfl) ?_
  refine wl_v rfl rfl rfl (v_fb (o2 := 0) fa25_0 rfl rfl) ?_
  refine wl_v rfl rfl rfl (v_load one22 rfl (H4.at (by repeat constructor) rfl)) ?_
  refine wl_v rfl rfl rfl (v_len Try.underlying22 rfl) ?_
  refine wl_v rfl rfl rfl (v_neq rfl rfl) ?_
  refine wl_v rfl rfl rfl (v_move rfl) ?_
  refine wl_guard rfl rfl rfl (fun g14 => ?_) (fun g14 => ?_)
  · have g14p := of_nd_f g14
    refine wl_v rfl rfl rfl (v_fb (o2 := 1) fa25_1 rfl rfl) ?_
    refine wl_on' rfl rfl g14 ?_
    refine wl_v rfl rfl rfl (v_load one23 rfl (H4.at (by repeat constructor) rfl)) ?_
    refine wl_on' rfl rfl g14 ?_
    refine wl_v rfl rfl rfl (v_len Try.underlying23 rfl) ?_
    refine wl_on' rfl rfl g14 ?_
    refine wl_v rfl rfl rfl (v_fb (o2 := 1) fa25_1 rfl rfl) ?_
    refine wl_on' rfl rfl g14 ?_
    refine wl_v rfl rfl rfl (v_load one23 rfl (H4.at (by repeat constructor) rfl)) ?_
    refine wl_on' rfl rfl g14 ?_
    refine wl_v rfl rfl rfl (v_len Try.underlying23 rfl) ?_
    refine wl_on' rfl rfl g14 ?_
    refine wl_v rfl rfl rfl (v_neq rfl rfl) ?_
    refine wl_v rfl rfl rfl (v_pick_f rfl g14 rfl) ?_
    refine wl_nil ?_
    refine wc_cond rfl (fun c0 => ?_) (fun c0 => ?_)
    · have c0p := of_nd_t c0
      refine wc_seq ?_
      refine wc_region ?_
      refine wl_v rfl rfl rfl (v_assign rfl) ?_
      refine wl_nil ?_
      refine wc_ret ?_
      first
        | exact ⟨_, res1 rfl rfl, congrArg Value.bool (decide_eq_true (hY (eq_done ha g14p c1p) (eq_done ha2 c0p c3p))).symm, H4.tail.tail⟩
        | exact ⟨_, res1 rfl rfl, congrArg Value.bool (decide_eq_false (fun h => ne_len g14p (hX h).1)).symm, H4.tail.tail⟩
        | exact ⟨_, res1 rfl rfl, congrArg Value.bool (decide_eq_false (fun h => ne_len c0p (hX h).2)).symm, H4.tail.tail⟩
        | exact ⟨_, res1 rfl rfl, congrArg Value.bool (decide_eq_false (fun h => ne_at (i := i) (z := []) c2p (hX h).1)).symm, H4.tail.tail⟩
        | exact ⟨_, res1 rfl rfl, congrArg Value.bool (decide_eq_false (fun h => ne_at (i := i) (z := []) c4p (hX h).2)).symm, H4.tail.tail⟩
    · have c0p := of_nd_f c0
      refine wc_skip ?_
      refine wc_seq ?_
      refine wc_seq ?_
      refine wc_region ?_
      refine wl_v rfl rfl rfl (v_assign rfl) ?_
      refine wl_nil ?_
      refine wc_block ?_
      refine wc_loop (σ := Nat) (fun s => [(2, .pointer (some ⟨b2, 0, none⟩)), (3, .pointer (some ⟨b3, 0, none⟩)), (5, .int .i64 s)]) (fun s W => s ≤ s1.mv.length ∧ s1.mv.take s = s2.mv.take s ∧ Holds w [Blk b3 25 [.slice A2 s2.mv.length ca2, .slice B2 s2.go.length cb2], Blk b2 25 [.slice A s1.mv.length ca, .slice B s1.go.length cb]] W) (fun s => s1.mv.length - s) 0 (sc rfl (sc rfl (sc rfl (sn _)))) ⟨Nat.zero_le _, rfl, H4⟩ ?_
      rintro i W0 ⟨hi, ha, H⟩
      refine wc_seq ?_
      refine wc_seq ?_
      refine wc_region ?_
      refine wl_v rfl rfl rfl (v_move rfl) ?_
      refine wl_v rfl rfl rfl (v_fb (o2 := 0) fa25_0 rfl rfl) ?_
      refine wl_v rfl rfl rfl (v_load one22 rfl (H.at (by repeat constructor) rfl)) ?_
      refine wl_v rfl rfl rfl (v_len Try.underlying22 rfl) ?_
      refine wl_v rfl rfl rfl (v_lss rfl rfl) ?_
      refine wl_nil ?_
      refine wc_cond rfl (fun c1 => ?_) (fun c1 => ?_)
      · have c1p := of_decide_eq_true c1
        refine wc_skip ?_
        refine wc_seq ?_
        refine wc_block ?_
        refine wc_seq ?_
        refine wc_tail 10 mixed (by kernel_rfl) ?_
        have Hd := H.drew
        refine ws_v rfl rfl rfl (v_fb (o2 := 0) fa25_0 rfl rfl) ?_
        refine ws_v rfl rfl rfl (v_load one22 rfl (Hd.at (by repeat constructor) rfl)) ?_
        refine ws_v rfl rfl rfl (v_move rfl) ?_
        refine ws_v rfl rfl rfl (v_idx Try.underlying22 sz38 hM.ad rfl rfl (by omega) (by omega)) ?_
        obtain ⟨B34, cp34, hc34, hl34, hr34⟩ := hM.atSlN (i := i) (by omega)
        refine ws_v rfl rfl rfl (v_load one38 rfl (Hd.cell (hc34))) ?_
        refine ws_v rfl rfl rfl (v_fb (o2 := 0) fa25_0 rfl rfl) ?_
        refine ws_v rfl rfl rfl (v_load one22 rfl (Hd.at (by repeat constructor) rfl)) ?_
        refine ws_v rfl rfl rfl (v_move rfl) ?_
        refine ws_v rfl rfl rfl (v_idx Try.underlying22 sz38 hM2.ad rfl rfl (by omega) (by omega)) ?_
        obtain ⟨B39, cp39, hc39, hl39, hr39⟩ := hM2.atSlN (i := i) (by omega)
        refine ws_v rfl rfl rfl (v_load one38 rfl (Hd.cell (hc39))) ?_
        refine ws_nil ?_
        refine wl_call en39 rfl rfl (sameMoves_calls (hr34.below Hd.old) (hr39.below Hd.old) (hk.ml (by omega)) (hk2.ml (by omega))) ?_
        rintro _ w5 ⟨rfl, Hc⟩
        have H6 := Hd.call Hc
        refine wl_v rfl rfl rfl (v_not rfl) ?_
        refine wl_nil ?_
        refine wc_cond rfl (fun c2 => ?_) (fun c2 => ?_)
        · have c2p := of_nd_t c2
          refine wc_seq ?_
          refine wc_region ?_
          refine wl_v rfl rfl rfl (v_assign rfl) ?_
          refine wl_nil ?_
          refine wc_ret ?_
          first
            | exact ⟨_, res1 rfl rfl, congrArg Value.bool (decide_eq_true (hY (eq_done ha g14p c1p) (eq_done ha2 c0p c3p))).symm, H6.tail.tail⟩
            | exact ⟨_, res1 rfl rfl, congrArg Value.bool (decide_eq_false (fun h => ne_len g14p (hX h).1)).symm, H6.tail.tail⟩
            | exact ⟨_, res1 rfl rfl, congrArg Value.bool (decide_eq_false (fun h => ne_len c0p (hX h).2)).symm, H6.tail.tail⟩
            | exact ⟨_, res1 rfl rfl, congrArg Value.bool (decide_eq_false (fun h => ne_at (i := i) (z := []) c2p (hX h).1)).symm, H6.tail.tail⟩
            | exact ⟨_, res1 rfl rfl, congrArg Value.bool (decide_eq_false (fun h => ne_at (i := i) (z := []) c4p (hX h).2)).symm, H6.tail.tail⟩
        · have c2p := of_nd_f c2
          refine wc_skip ?_
          refine wc_region ?_
          refine wl_v rfl rfl rfl (v_move rfl) ?_
          refine wl_v rfl rfl rfl (v_addi rfl rfl (by omega)) ?_
          refine wl_v rfl rfl rfl (v_assign rfl) ?_
          refine wl_nil ?_
          exact ⟨i + 1, (sc rfl (sc rfl (sc rfl (sn _)))), ⟨by omega, eq_step [] ha g14p (by omega) c2p, H6⟩, by omega⟩
      · have c1p := of_decide_eq_false c1
        refine wc_exit ?_
        refine wc_seq ?_
        refine wc_seq ?_
        refine wc_region ?_
        refine wl_v rfl rfl rfl (v_assign rfl) ?_
        refine wl_nil ?_
        refine wc_block ?_
        refine wc_loop (σ := Nat) (fun s => [(2, .pointer (some ⟨b2, 0, none⟩)), (3, .pointer (some ⟨b3, 0, none⟩)), (6, .int .i64 s)]) (fun s W => s ≤ s1.go.length ∧ s1.go.take s = s2.go.take s ∧ Holds w [Blk b3 25 [.slice A2 s2.mv.length ca2, .slice B2 s2.go.length cb2], Blk b2 25 [.slice A s1.mv.length ca, .slice B s1.go.length cb]] W) (fun s => s1.go.length - s) 0 (sc rfl (sc rfl (sc rfl (sn _)))) ⟨Nat.zero_le _, rfl, H⟩ ?_
        rintro i W1 ⟨hi, ha2, H⟩
        refine wc_seq ?_
        refine wc_seq ?_
        refine wc_region ?_
        refine wl_v rfl rfl rfl (v_move rfl) ?_
        refine wl_v rfl rfl rfl (v_fb (o2 := 1) fa25_1 rfl rfl) ?_
        refine wl_v rfl rfl rfl (v_load one23 rfl (H.at (by repeat constructor) rfl)) ?_
        refine wl_v rfl rfl rfl (v_len Try.underlying23 rfl) ?_
        refine wl_v rfl rfl rfl (v_lss rfl rfl) ?_
        refine wl_nil ?_
        refine wc_cond rfl (fun c3 => ?_) (fun c3 => ?_)
        · have c3p := of_decide_eq_true c3
          refine wc_skip ?_
          refine wc_seq ?_
          refine wc_block ?_
          refine wc_seq ?_
          refine wc_tail 10 mixed (by kernel_rfl) ?_
          have Hd := H.drew
          refine ws_v rfl rfl rfl (v_fb (o2 := 1) fa25_1 rfl rfl) ?_
          refine ws_v rfl rfl rfl (v_load one23 rfl (Hd.at (by repeat constructor) rfl)) ?_
          refine ws_v rfl rfl rfl (v_move rfl) ?_
          refine ws_v rfl rfl rfl (v_idx Try.underlying23 sz39 hG.ad rfl rfl (by omega) (by omega)) ?_
          obtain ⟨B53, cp53, hc53, hl53, hr53⟩ := hG.atSlN (i := i) (by omega)
          refine ws_v rfl rfl rfl (v_load one39 rfl (Hd.cell (hc53))) ?_
          refine ws_v rfl rfl rfl (v_fb (o2 := 1) fa25_1 rfl rfl) ?_
          refine ws_v rfl rfl rfl (v_load one23 rfl (Hd.at (by repeat constructor) rfl)) ?_
          refine ws_v rfl rfl rfl (v_move rfl) ?_
          refine ws_v rfl rfl rfl (v_idx Try.underlying23 sz39 hG2.ad rfl rfl (by omega) (by omega)) ?_
          obtain ⟨B58, cp58, hc58, hl58, hr58⟩ := hG2.atSlN (i := i) (by omega)
          refine ws_v rfl rfl rfl (v_load one39 rfl (Hd.cell (hc58))) ?_
          refine ws_nil ?_
          refine wl_call en40 rfl rfl (sameInts_calls (hr53.below Hd.old) (hr58.below Hd.old) (hk.gl (by omega)) (hk2.gl (by omega))) ?_
          rintro _ w7 ⟨rfl, Hc⟩
          have H8 := Hd.call Hc
          refine wl_v rfl rfl rfl (v_not rfl) ?_
          refine wl_nil ?_
          refine wc_cond rfl (fun c4 => ?_) (fun c4 => ?_)
          · have c4p := of_nd_t c4
            refine wc_seq ?_
            refine wc_region ?_
            refine wl_v rfl rfl rfl (v_assign rfl) ?_
            refine wl_nil ?_
            refine wc_ret ?_
            first
              | exact ⟨_, res1 rfl rfl, congrArg Value.bool (decide_eq_true (hY (eq_done ha g14p c1p) (eq_done ha2 c0p c3p))).symm, H8.tail.tail⟩
              | exact ⟨_, res1 rfl rfl, congrArg Value.bool (decide_eq_false (fun h => ne_len g14p (hX h).1)).symm, H8.tail.tail⟩
              | exact ⟨_, res1 rfl rfl, congrArg Value.bool (decide_eq_false (fun h => ne_len c0p (hX h).2)).symm, H8.tail.tail⟩
              | exact ⟨_, res1 rfl rfl, congrArg Value.bool (decide_eq_false (fun h => ne_at (i := i) (z := []) c2p (hX h).1)).symm, H8.tail.tail⟩
              | exact ⟨_, res1 rfl rfl, congrArg Value.bool (decide_eq_false (fun h => ne_at (i := i) (z := []) c4p (hX h).2)).symm, H8.tail.tail⟩
          · have c4p := of_nd_f c4
            refine wc_skip ?_
            refine wc_region ?_
            refine wl_v rfl rfl rfl (v_move rfl) ?_
            refine wl_v rfl rfl rfl (v_addi rfl rfl (by omega)) ?_
            refine wl_v rfl rfl rfl (v_assign rfl) ?_
            refine wl_nil ?_
            exact ⟨i + 1, (sc rfl (sc rfl (sc rfl (sn _)))), ⟨by omega, eq_step [] ha2 c0p (by omega) c4p, H8⟩, by omega⟩
        · have c3p := of_decide_eq_false c3
          refine wc_exit ?_
          refine wc_seq ?_
          refine wc_region ?_
          refine wl_v rfl rfl rfl (v_assign rfl) ?_
          refine wl_nil ?_
          refine wc_ret ?_
          first
            | exact ⟨_, res1 rfl rfl, congrArg Value.bool (decide_eq_true (hY (eq_done ha g14p c1p) (eq_done ha2 c0p c3p))).symm, H.tail.tail⟩
            | exact ⟨_, res1 rfl rfl, congrArg Value.bool (decide_eq_false (fun h => ne_len g14p (hX h).1)).symm, H.tail.tail⟩
            | exact ⟨_, res1 rfl rfl, congrArg Value.bool (decide_eq_false (fun h => ne_len c0p (hX h).2)).symm, H.tail.tail⟩
            | exact ⟨_, res1 rfl rfl, congrArg Value.bool (decide_eq_false (fun h => ne_at (i := i) (z := []) c2p (hX h).1)).symm, H.tail.tail⟩
            | exact ⟨_, res1 rfl rfl, congrArg Value.bool (decide_eq_false (fun h => ne_at (i := i) (z := []) c4p (hX h).2)).symm, H.tail.tail⟩
  · have g14p := of_nd_t g14
    refine wl_off rfl rfl g14 rfl ?_
    refine wl_off rfl rfl g14 rfl ?_
    refine wl_off rfl rfl g14 rfl ?_
    refine wl_off rfl rfl g14 rfl ?_
    refine wl_off rfl rfl g14 rfl ?_
    refine wl_off rfl rfl g14 rfl ?_
    refine wl_v rfl rfl rfl (v_pick_t rfl g14 rfl) ?_
    refine wl_nil ?_
    refine wc_cond_t rfl ?_
    refine wc_seq ?_
    refine wc_region ?_
    refine wl_v rfl rfl rfl (v_assign rfl) ?_
    refine wl_nil ?_
    refine wc_ret ?_
    first
      | exact ⟨_, res1 rfl rfl, congrArg Value.bool (decide_eq_true (hY (eq_done ha g14p c1p) (eq_done ha2 c0p c3p))).symm, H4.tail.tail⟩
      | exact ⟨_, res1 rfl rfl, congrArg Value.bool (decide_eq_false (fun h => ne_len g14p (hX h).1)).symm, H4.tail.tail⟩
      | exact ⟨_, res1 rfl rfl, congrArg Value.bool (decide_eq_false (fun h => ne_len c0p (hX h).2)).symm, H4.tail.tail⟩
      | exact ⟨_, res1 rfl rfl, congrArg Value.bool (decide_eq_false (fun h => ne_at (i := i) (z := []) c2p (hX h).1)).symm, H4.tail.tail⟩
      | exact ⟨_, res1 rfl rfl, congrArg Value.bool (decide_eq_false (fun h => ne_at (i := i) (z := []) c4p (hX h).2)).symm, H4.tail.tail⟩
end Go.Proofs.Ytkpehkadammppaa.TabA
