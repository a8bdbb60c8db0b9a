/- Bytes read as a table. What the document's usual tells. -/
import Derived.Test.YtkpehkadammppaaProg
import Derived.Test.YtkpehkadammppaaK06
import Derived.Test.YtkpehkadammppaaK08
import Derived.Test.YtkpehkadammppaaK02
set_option linter.unusedVariables false
set_option linter.unusedSimpArgs false
/-! Bytes read as a table. -/
namespace Go.Proofs.Ytkpehkadammppaa.ReadW
open Go Go.RowKit Go.Proofs.YtkpehkadammppaaFx Go.Proofs.Ytkpehkadammppaa.NumW Go.Proofs.Ytkpehkadammppaa.TabB Go.Proofs.Ytkpehkadammppaa.BytesW
theorem agg25 : Agg Try.prog 25 2 := agg_of Try.underlying25 (by kernel_rfl)
theorem agg48 : Agg Try.prog 48 2 := agg_of Try.underlying48 (by kernel_rfl)
theorem agg70 : Agg Try.prog 70 2 := agg_of Try.underlying70 (by kernel_rfl)
theorem ba112 : BuildAt Try.prog 112 [.slice none 0 0, .bool false] [(0, 1), (1, 1)] := build_at Try.underlying112 (by kernel_rfl) (by kernel_rfl)
theorem ba25 : BuildAt Try.prog 25 [.slice none 0 0, .slice none 0 0] [(0, 1), (1, 1)] := build_at Try.underlying25 (by kernel_rfl) (by kernel_rfl)
theorem ba48 : BuildAt Try.prog 48 [.int .i64 0, .int .i64 0] [(0, 1), (1, 1)] := build_at Try.underlying48 (by kernel_rfl) (by kernel_rfl)
theorem ba70 : BuildAt Try.prog 70 [.int .i64 0, .int .i64 0] [(0, 1), (1, 1)] := build_at Try.underlying70 (by kernel_rfl) (by kernel_rfl)
theorem en32 : Enters Try.prog 32 := enters Try.func32 (by kernel_rfl) rfl
theorem en54 : Enters Try.prog 54 := enters Try.func54 (by kernel_rfl) rfl
theorem fa112_0 : FieldAt Try.prog 112 0 0 := field_at (sz := 0) Try.underlying112 rfl (by kernel_rfl) rfl
theorem fa112_1 : FieldAt Try.prog 112 1 1 := field_at (sz := 0) Try.underlying112 rfl (by kernel_rfl) rfl
theorem fa25_0 : FieldAt Try.prog 25 0 0 := field_at (sz := 0) Try.underlying25 rfl (by kernel_rfl) rfl
theorem fa25_1 : FieldAt Try.prog 25 1 1 := field_at (sz := 0) Try.underlying25 rfl (by kernel_rfl) rfl
theorem fa48_1 : FieldAt Try.prog 48 1 1 := field_at (sz := 0) Try.underlying48 rfl (by kernel_rfl) rfl
theorem info3 : (Try.prog.info? 3).map (fun i => (i.zero, i.size, i.bytes)) = some (some (.int .i64 0), 1, 8) := by kernel_rfl
theorem info38 : (Try.prog.info? 38).map (fun i => (i.zero, i.size, i.bytes)) = some (some (.slice none 0 0), 1, 24) := by kernel_rfl
theorem info39 : (Try.prog.info? 39).map (fun i => (i.zero, i.size, i.bytes)) = some (some (.slice none 0 0), 1, 24) := by kernel_rfl
theorem info48 : (Try.prog.info? 48).map (fun i => (i.zero, i.size, i.bytes)) = some (some (.agg #[.int .i64 0, .int .i64 0]), 2, 16) := by kernel_rfl
theorem mixed : Try.prog.follows .mixedOrders = true := by kernel_rfl
theorem one22 : One Try.prog 22 := one_of Try.underlying22 rfl (by kernel_rfl)
theorem one23 : One Try.prog 23 := one_of Try.underlying23 rfl (by kernel_rfl)
theorem one4 : One Try.prog 4 := one_of Try.underlying4 rfl (by kernel_rfl)
theorem one64 : One Try.prog 64 := one_of Try.underlying64 rfl (by kernel_rfl)
theorem sz22 : ∀ W, (sizeOf 22).run Try.prog W = .ok 1 W := size_of (by kernel_rfl)
theorem sz23 : ∀ W, (sizeOf 23).run Try.prog W = .ok 1 W := size_of (by kernel_rfl)
theorem sz25 : ∀ W, (sizeOf 25).run Try.prog W = .ok 2 W := size_of (by kernel_rfl)
theorem sz3 : ∀ W, (sizeOf 3).run Try.prog W = .ok 1 W := size_of (by kernel_rfl)
theorem sz38 : ∀ W, (sizeOf 38).run Try.prog W = .ok 1 W := size_of (by kernel_rfl)
theorem sz39 : ∀ W, (sizeOf 39).run Try.prog W = .ok 1 W := size_of (by kernel_rfl)
theorem sz4 : ∀ W, (sizeOf 4).run Try.prog W = .ok 1 W := size_of (by kernel_rfl)
theorem sz48 : ∀ W, (sizeOf 48).run Try.prog W = .ok 2 W := size_of (by kernel_rfl)
theorem sz70 : ∀ W, (sizeOf 70).run Try.prog W = .ok 2 W := size_of (by kernel_rfl)
theorem zv25 : ∀ W, (zeroValue 25).run Try.prog W = .ok (.agg #[.slice none 0 0, .slice none 0 0]) W := zero_of (by kernel_rfl)
theorem zv3 : ∀ W, (zeroValue 3).run Try.prog W = .ok (.int .i64 0) W := zero_of (by kernel_rfl)
theorem zv38 : ∀ W, (zeroValue 38).run Try.prog W = .ok (.slice none 0 0) W := zero_of (by kernel_rfl)
theorem zv39 : ∀ W, (zeroValue 39).run Try.prog W = .ok (.slice none 0 0) W := zero_of (by kernel_rfl)
theorem zv48 : ∀ W, (zeroValue 48).run Try.prog W = .ok (.agg #[.int .i64 0, .int .i64 0]) W := zero_of (by kernel_rfl)
theorem zv70 : ∀ W, (zeroValue 70).run Try.prog W = .ok (.agg #[.int .i64 0, .int .i64 0]) W := zero_of (by kernel_rfl)

set_option maxHeartbeats 3200000 in
set_option maxRecDepth 100000 in
theorem read_calls {A : Option Addr} {c : Nat} {bs : List Int} {w : World} (hr : Rd (kInt .u8) w A bs) (hB : Bytes bs) (hl : bs.length ≤ 549755813888) (hcap : bs.length ≤ c) :
    Calls Try.prog 29 #[.slice A bs.length c] w fun e w' => ∃ v, e = .returned v ∧ ∃ v1 v2, v = .tuple #[.agg #[v1, v2], .agg #[.int .i64 (rdE bs), .int .i64 0]] ∧ Holds w (OwnT v1 v2 (rdT bs)) w' := by
  refine calls_of Try.func29 rfl Try.ntmps29 rfl ?_
  have H := Holds.start w
  refine wc_seq ?_
  refine wc_region ?_
  refine wl_alloc (cs := [.slice none 0 0, .slice none 0 0]) H rfl zv25 rfl ?_
  intro b2 w1 hb2 H2
  refine wl_alloc (cs := [.int .i64 0, .int .i64 0]) H2 rfl zv70 rfl ?_
  intro b3 w3 hb3 H4
  refine wl_nil ?_
  refine wc_seq ?_
  refine wc_region ?_
  refine wl_v rfl rfl rfl (v_move rfl) ?_
  refine wl_v rfl rfl rfl (v_bld ba112 rfl (by repeat constructor)) ?_
  refine wl_box (cs := [_, _]) H4 rfl rfl rfl ?_
  intro b17 w5 hb17 H6
  refine wl_v rfl rfl rfl (v_assign rfl) ?_
  refine wl_nil ?_
  refine wc_seq ?_
  refine wc_region ?_
  refine wl_v rfl rfl rfl (v_bld ba25 rfl (by repeat constructor)) ?_
  refine wl_alloc (cs := [.slice none 0 0, .slice none 0 0]) H6 rfl zv25 rfl ?_
  intro b5 w7 hb5 H8
  refine wl_store (vs := [_, _]) H8 (by repeat constructor) sz25 rfl rfl rfl rfl rfl (by (repeat constructor)) ?_
  intro w9 H10 hw9
  refine wl_nil ?_
  refine wc_seq ?_
  refine wc_region ?_
  refine wl_v rfl rfl rfl (v_move rfl) ?_
  refine wl_call en54 rfl rfl (number_calls (b := b17) (bs := bs) (bad := false) (LL := fun x => [Blk b5 25 [.slice none 0 0, .slice none 0 0], Blk b17 112 x, Blk b3 70 [.int .i64 0, .int .i64 0], Blk b2 25 [.slice none 0 0, .slice none 0 0]]) (fun x y => by repeat constructor) hr hB (by omega) hcap H10) ?_
  rintro _ w11 ⟨A1, z1, rfl, hc1, hr1, Hc20⟩
  have n1 := numS_nx false hB
  have ln1 := n1.le
  obtain ⟨⟨q1, bs1, bad1⟩, hq1⟩ : ∃ q, numS bs false = q := ⟨_, rfl⟩
  rw [hq1] at n1 ln1 hc1 hr1 Hc20 ⊢
  dsimp only at n1 ln1 hc1 hr1 Hc20 ⊢
  refine wl_v rfl rfl rfl (v_move rfl) ?_
  refine wl_call en54 rfl rfl (number_calls (b := b17) (bs := bs1) (bad := bad1) (LL := fun x => [Blk b5 25 [.slice none 0 0, .slice none 0 0], Blk b17 112 x, Blk b3 70 [.int .i64 0, .int .i64 0], Blk b2 25 [.slice none 0 0, .slice none 0 0]]) (fun x y => by repeat constructor) hr1 n1.byt (by have := n1.len; omega) hc1 Hc20) ?_
  rintro _ w12 ⟨A2, z2, rfl, hc2, hr2, Hc22⟩
  have n2 := numS_nx bad1 n1.byt
  have ln2 := n2.le
  obtain ⟨⟨q2, bs2, bad2⟩, hq2⟩ : ∃ q, numS bs1 bad1 = q := ⟨_, rfl⟩
  rw [hq2] at n2 ln2 hc2 hr2 Hc22 ⊢
  dsimp only at n2 ln2 hc2 hr2 Hc22 ⊢
  refine wl_v rfl rfl rfl (v_move rfl) ?_
  refine wl_call en54 rfl rfl (number_calls (b := b17) (bs := bs2) (bad := bad2) (LL := fun x => [Blk b5 25 [.slice none 0 0, .slice none 0 0], Blk b17 112 x, Blk b3 70 [.int .i64 0, .int .i64 0], Blk b2 25 [.slice none 0 0, .slice none 0 0]]) (fun x y => by repeat constructor) hr2 n2.byt (by have := n1.len; have := n2.len; omega) hc2 Hc22) ?_
  rintro _ w13 ⟨A3, z3, rfl, hc3, hr3, Hc24⟩
  have n3 := numS_nx bad2 n2.byt
  have ln3 := n3.le
  obtain ⟨⟨q3, bs3, bad3⟩, hq3⟩ : ∃ q, numS bs2 bad2 = q := ⟨_, rfl⟩
  rw [hq3] at n3 ln3 hc3 hr3 Hc24 ⊢
  dsimp only at n3 ln3 hc3 hr3 Hc24 ⊢
  refine wl_v rfl rfl rfl (v_assign rfl) ?_
  refine wl_v rfl rfl rfl (v_assign rfl) ?_
  refine wl_v rfl rfl rfl (v_assign rfl) ?_
  refine wl_nil ?_
  refine wc_seq ?_
  refine wc_seq ?_
  refine wc_region ?_
  refine wl_v rfl rfl rfl (v_assign rfl) ?_
  refine wl_nil ?_
  refine wc_block ?_
  refine wc_loop (σ := Tb × (Option Addr × Nat) × List Int × Bool) (fun s => [(2, .pointer (some ⟨b2, 0, none⟩)), (3, .pointer (some ⟨b3, 0, none⟩)), (4, .pointer (some ⟨b17, 0, none⟩)), (5, .pointer (some ⟨b5, 0, none⟩)), (6, .int .i64 q1), (7, .int .i64 q2), (8, .int .i64 q3), (9, .int .i64 s.1.mv.length)]) (fun s W => (PR bs q1 q2 q3 s.1 s.2.2.1 s.2.2.2 ∧ s.2.2.1.length ≤ s.2.1.2 ∧ Rd (kInt .u8) w s.2.1.1 s.2.2.1) ∧ ∃ v1 v2, Holds w [RR fMv 38 48 v1 s.1.mv, RR (fInt .i64) 39 3 v2 s.1.go, Blk b5 25 [v1, v2], Blk b17 112 [.slice s.2.1.1 s.2.2.1.length s.2.1.2, .bool s.2.2.2], Blk b3 70 [.int .i64 0, .int .i64 0], Blk b2 25 [.slice none 0 0, .slice none 0 0]] W) (fun s => bs.length + 2 - s.1.mv.length) (⟨[], []⟩, (A3, z3), bs3, bad3) (sc rfl (sc rfl (sc rfl (sc rfl (sc rfl (sc rfl (sc rfl (sc rfl (sn _))))))))) ⟨⟨PR.start n1 n2 n3, hc3, hr3⟩, _, _, ((Hc24.rrNil fMv 38 48).rrNil (fInt .i64) 39 3).pm (by repeat constructor)⟩ ?_
  rintro ⟨t, ⟨A', z'⟩, l1, bad⟩ W0 ⟨⟨hpr, hcb, hrb⟩, v1, v2, H⟩
  dsimp only at hpr hcb hrb H ⊢
  have hsz := hpr.sz
  have hll1 := hpr.len
  refine wc_seq ?_
  refine wc_seq ?_
  refine wc_region ?_
  refine wl_v rfl rfl rfl (v_move rfl) ?_
  refine wl_v rfl rfl rfl (v_move rfl) ?_
  refine wl_v rfl rfl rfl (v_lss rfl rfl) ?_
  refine wl_v rfl rfl rfl (v_move rfl) ?_
  refine wl_guard rfl rfl rfl (fun g28 => ?_) (fun g28 => ?_)
  · have g28p := of_decide_eq_true g28
    refine wl_v rfl rfl rfl (v_move rfl) ?_
    refine wl_on' rfl rfl g28 ?_
    refine wl_v rfl rfl rfl (v_nil rfl) ?_
    refine wl_on' rfl rfl g28 ?_
    refine wl_v rfl rfl rfl (v_fb (o2 := 1) fa112_1 rfl rfl) ?_
    refine wl_on' rfl rfl g28 ?_
    refine wl_v rfl rfl rfl (v_load one4 rfl (H.at (by repeat constructor) rfl)) ?_
    refine wl_on' rfl rfl g28 ?_
    refine wl_v rfl rfl rfl (v_not rfl) ?_
    refine wl_v rfl rfl rfl (v_pick_t rfl g28 rfl) ?_
    refine wl_nil ?_
    refine wc_cond rfl (fun c0 => ?_) (fun c0 => ?_)
    · have c0p := of_n_t c0
      subst c0p
      refine wc_skip ?_
      refine wc_seq ?_
      refine wc_block ?_
      refine wc_seq ?_
      refine wc_region ?_
      refine wl_v rfl rfl rfl (v_assign rfl) ?_
      refine wl_v rfl rfl rfl (v_assign rfl) ?_
      refine wl_nil ?_
      refine wc_cut (σ := List Mv × (Option Addr × Nat) × (Option Addr × Nat) × List Int × Bool) (fun s => [(2, .pointer (some ⟨b2, 0, none⟩)), (3, .pointer (some ⟨b3, 0, none⟩)), (4, .pointer (some ⟨b17, 0, none⟩)), (5, .pointer (some ⟨b5, 0, none⟩)), (6, .int .i64 q1), (7, .int .i64 q2), (8, .int .i64 q3), (9, .int .i64 t.mv.length), (10, .slice s.2.1.1 s.1.length s.2.1.2), (11, .slice none 0 0), (12, .int .i64 s.1.length)]) (fun s W => (PM q2 l1 s.1 s.2.2.2.1 s.2.2.2.2 ∧ s.2.2.2.1.length ≤ s.2.2.1.2 ∧ Rd (kInt .u8) w s.2.2.1.1 s.2.2.2.1 ∧ (s.2.2.2.2 = false → q2 ≤ s.1.length)) ∧ Holds w [Row fMv 48 (.slice s.2.1.1 s.1.length s.2.1.2) s.1, RR fMv 38 48 v1 t.mv, RR (fInt .i64) 39 3 v2 t.go, Blk b5 25 [v1, v2], Blk b17 112 [.slice s.2.2.1.1 s.2.2.2.1.length s.2.2.1.2, .bool s.2.2.2.2], Blk b3 70 [.int .i64 0, .int .i64 0], Blk b2 25 [.slice none 0 0, .slice none 0 0]] W) ?_ ?_
      · refine wc_seq ?_
        refine wc_region ?_
        refine wl_v rfl rfl rfl (v_assign rfl) ?_
        refine wl_nil ?_
        refine wc_block ?_
        refine wc_loop (σ := List Mv × (Option Addr × Nat) × (Option Addr × Nat) × List Int × Bool) (fun s => [(2, .pointer (some ⟨b2, 0, none⟩)), (3, .pointer (some ⟨b3, 0, none⟩)), (4, .pointer (some ⟨b17, 0, none⟩)), (5, .pointer (some ⟨b5, 0, none⟩)), (6, .int .i64 q1), (7, .int .i64 q2), (8, .int .i64 q3), (9, .int .i64 t.mv.length), (10, .slice s.2.1.1 s.1.length s.2.1.2), (11, .slice none 0 0), (12, .int .i64 s.1.length)]) (fun s W => (PM q2 l1 s.1 s.2.2.2.1 s.2.2.2.2 ∧ s.2.2.2.1.length ≤ s.2.2.1.2 ∧ Rd (kInt .u8) w s.2.2.1.1 s.2.2.2.1) ∧ Holds w [Row fMv 48 (.slice s.2.1.1 s.1.length s.2.1.2) s.1, RR fMv 38 48 v1 t.mv, RR (fInt .i64) 39 3 v2 t.go, Blk b5 25 [v1, v2], Blk b17 112 [.slice s.2.2.1.1 s.2.2.2.1.length s.2.2.1.2, .bool s.2.2.2.2], Blk b3 70 [.int .i64 0, .int .i64 0], Blk b2 25 [.slice none 0 0, .slice none 0 0]] W) (fun s => l1.length + 3 - s.1.length) ([], (none, 0), (A', z'), l1, false) (sc rfl (sc rfl (sc rfl (sc rfl (sc rfl (sc rfl (sc rfl (sc rfl (sc rfl (sc rfl (sc rfl (sn _)))))))))))) ⟨⟨PM.start q2 hpr.byt, hcb, hrb⟩, (H.nilrow 48 2).pm (by repeat constructor)⟩ ?_
        rintro ⟨ms, ⟨A10, z10⟩, ⟨Am, zm⟩, l2, bm⟩ W1 ⟨⟨hpm, hcm, hrm⟩, H⟩
        dsimp only at hpm hcm hrm H ⊢
        have hms := hpm.sz
        have hll2 := hpm.len
        refine wc_seq ?_
        refine wc_seq ?_
        refine wc_region ?_
        refine wl_v rfl rfl rfl (v_move rfl) ?_
        refine wl_v rfl rfl rfl (v_move rfl) ?_
        refine wl_v rfl rfl rfl (v_lss rfl rfl) ?_
        refine wl_v rfl rfl rfl (v_move rfl) ?_
        refine wl_guard rfl rfl rfl (fun g40 => ?_) (fun g40 => ?_)
        · have g40p := of_decide_eq_true g40
          refine wl_v rfl rfl rfl (v_move rfl) ?_
          refine wl_on' rfl rfl g40 ?_
          refine wl_v rfl rfl rfl (v_nil rfl) ?_
          refine wl_on' rfl rfl g40 ?_
          refine wl_v rfl rfl rfl (v_fb (o2 := 1) fa112_1 rfl rfl) ?_
          refine wl_on' rfl rfl g40 ?_
          refine wl_v rfl rfl rfl (v_load one4 rfl (H.at (by repeat constructor) rfl)) ?_
          refine wl_on' rfl rfl g40 ?_
          refine wl_v rfl rfl rfl (v_not rfl) ?_
          refine wl_v rfl rfl rfl (v_pick_t rfl g40 rfl) ?_
          refine wl_nil ?_
          refine wc_cond rfl (fun c1 => ?_) (fun c1 => ?_)
          · have c1p := of_n_t c1
            subst c1p
            refine wc_skip ?_
            refine wc_seq ?_
            refine wc_block ?_
            refine wc_seq ?_
            refine wc_region ?_
            refine wl_v rfl rfl rfl (v_move rfl) ?_
            refine wl_call en54 rfl rfl (number_calls (b := b17) (bs := l2) (bad := false) (LL := fun x => [Row fMv 48 (.slice A10 ms.length z10) ms, RR fMv 38 48 v1 t.mv, RR (fInt .i64) 39 3 v2 t.go, Blk b5 25 [v1, v2], Blk b17 112 x, Blk b3 70 [.int .i64 0, .int .i64 0], Blk b2 25 [.slice none 0 0, .slice none 0 0]]) (fun x y => by repeat constructor) hrm hpm.byt (by have := hpm.len; have := hpr.len; omega) hcm H) ?_
            rintro _ w14 ⟨Aa, za, rfl, hca, hra, Hc50⟩
            have na := numS_nx false hpm.byt
            have lna := na.le
            obtain ⟨⟨qa, bsa, bada⟩, hqa⟩ : ∃ q, numS l2 false = q := ⟨_, rfl⟩
            rw [hqa] at na lna hca hra Hc50 ⊢
            dsimp only at na lna hca hra Hc50 ⊢
            refine wl_v rfl rfl rfl (v_bld ba48 rfl (by repeat constructor)) ?_
            refine wl_alloc (cs := [.int .i64 0, .int .i64 0]) Hc50 rfl zv48 rfl ?_
            intro b13 w15 hb13 H16
            refine wl_store (vs := [_, _]) H16 (by repeat constructor) sz48 rfl rfl rfl rfl rfl (by (repeat constructor)) ?_
            intro w17 H18 hw17
            refine wl_nil ?_
            refine wc_seq ?_
            refine wc_region ?_
            refine wl_v rfl rfl rfl (v_move rfl) ?_
            refine wl_call en54 rfl rfl (number_calls (b := b17) (bs := bsa) (bad := bada) (LL := fun x => [Blk b13 48 [.int .i64 (qa : Int), .int .i64 0], Row fMv 48 (.slice A10 ms.length z10) ms, RR fMv 38 48 v1 t.mv, RR (fInt .i64) 39 3 v2 t.go, Blk b5 25 [v1, v2], Blk b17 112 x, Blk b3 70 [.int .i64 0, .int .i64 0], Blk b2 25 [.slice none 0 0, .slice none 0 0]]) (fun x y => by repeat constructor) hra na.byt (by have := na.len; have := hpm.len; have := hpr.len; omega) hca H18) ?_
            rintro _ w19 ⟨Ab, zb, rfl, hcb_, hrb_, Hc53⟩
            have nb := numS_nx bada na.byt
            have lnb := nb.le
            obtain ⟨⟨qb, bsb, badb⟩, hqb⟩ : ∃ q, numS bsa bada = q := ⟨_, rfl⟩
            rw [hqb] at nb lnb hcb_ hrb_ Hc53 ⊢
            dsimp only at nb lnb hcb_ hrb_ Hc53 ⊢
            refine wl_v rfl rfl rfl (v_fb (o2 := 1) fa48_1 rfl rfl) ?_
            refine wl_store (vs := [_]) Hc53 (by repeat constructor) sz3 rfl rfl rfl rfl rfl (by (repeat constructor)) ?_
            intro w20 H21 hw20
            refine wl_nil ?_
            refine wc_region ?_
            refine wl_v rfl rfl rfl (v_move rfl) ?_
            refine wl_v rfl rfl rfl (v_loadN agg48 rfl rfl (H21.ats (by repeat constructor))) ?_
            refine wl_slit (v := .agg #[.int .i64 0, .int .i64 0]) (z := [.int .i64 0, .int .i64 0]) (cs := [.int .i64 (qa : Int), .int .i64 (qb : Int)]) (sz := 2) H21 rfl Try.underlying38 sz48 zv48 (by decide) (by decide) (by kernel_rfl) rfl (by repeat constructor) ?_
            intro b57 w22 hb57 H22 hs22
            refine wl_app1 (f := fMv) (xs := ms) (y' := ⟨(qa : Int), (qb : Int)⟩) H22 (fun v' => (by repeat constructor)) (by repeat constructor) rfl Try.underlying38 info48 rfl (by decide) rfl rfl rfl (by have := hpm.sz; have := hpr.len; omega) (by decide) ?_
            intro A58 z58 w23 H23 hs23
            refine wl_v rfl rfl rfl (v_assign rfl) ?_
            refine wl_nil ?_
            refine wc_region ?_
            refine wl_v rfl rfl rfl (v_move rfl) ?_
            refine wl_v rfl rfl rfl (v_addi rfl rfl (by omega)) ?_
            refine wl_v rfl rfl rfl (v_assign rfl) ?_
            refine wl_nil ?_
            exact ⟨(ms ++ [⟨(qa : Int), (qb : Int)⟩], (A58, z58), (Ab, zb), bsb, badb), by rw [show ((ms ++ [(⟨(qa : Int), (qb : Int)⟩ : Mv)]).length : Int) = (ms.length : Int) + 1 by simp]; exact (sc rfl (sc rfl (sc rfl (sc rfl (sc rfl (sc rfl (sc rfl (sc rfl (sc rfl (sc rfl (sc rfl (sn _)))))))))))), ⟨⟨hpm.next (by omega) na nb, hcb_, hrb_⟩, H23.pm (by repeat constructor)⟩, by dsimp only; rw [List.length_append, List.length_singleton]; omega⟩
          · have c1p := of_n_f c1
            refine wc_exit ?_
            first
              | exact ⟨(ms, (A10, z10), (Am, zm), l2, bm), (sc rfl (sc rfl (sc rfl (sc rfl (sc rfl (sc rfl (sc rfl (sc rfl (sc rfl (sc rfl (sc rfl (sn _)))))))))))), ⟨hpm, hcm, hrm, fun _ => by dsimp only; omega⟩, H⟩
              | exact ⟨(ms, (A10, z10), (Am, zm), l2, bm), (sc rfl (sc rfl (sc rfl (sc rfl (sc rfl (sc rfl (sc rfl (sc rfl (sc rfl (sc rfl (sc rfl (sn _)))))))))))), ⟨hpm, hcm, hrm, fun hb => absurd (hb.symm.trans c1p) (by simp)⟩, H⟩
        · have g40p := of_decide_eq_false g40
          refine wl_off rfl rfl g40 rfl ?_
          refine wl_off rfl rfl g40 rfl ?_
          refine wl_off rfl rfl g40 rfl ?_
          refine wl_off rfl rfl g40 rfl ?_
          refine wl_v rfl rfl rfl (v_pick_f rfl g40 rfl) ?_
          refine wl_nil ?_
          refine wc_cond_f rfl ?_
          refine wc_exit ?_
          first
            | exact ⟨(ms, (A10, z10), (Am, zm), l2, bm), (sc rfl (sc rfl (sc rfl (sc rfl (sc rfl (sc rfl (sc rfl (sc rfl (sc rfl (sc rfl (sc rfl (sn _)))))))))))), ⟨hpm, hcm, hrm, fun _ => by dsimp only; omega⟩, H⟩
            | exact ⟨(ms, (A10, z10), (Am, zm), l2, bm), (sc rfl (sc rfl (sc rfl (sc rfl (sc rfl (sc rfl (sc rfl (sc rfl (sc rfl (sc rfl (sc rfl (sn _)))))))))))), ⟨hpm, hcm, hrm, fun hb => absurd (hb.symm.trans c1p) (by simp)⟩, H⟩
      · rintro ⟨ms, ⟨A10, z10⟩, ⟨Am, zm⟩, l2, bm⟩ Wm ⟨⟨hpm, hcm, hrm, hmk⟩, H⟩
        dsimp only at hpm hcm hrm hmk H ⊢
        have hll2 := hpm.len
        refine wc_cut (σ := List Int × (Option Addr × Nat) × (Option Addr × Nat) × List Int × Bool) (fun s => [(2, .pointer (some ⟨b2, 0, none⟩)), (3, .pointer (some ⟨b3, 0, none⟩)), (4, .pointer (some ⟨b17, 0, none⟩)), (5, .pointer (some ⟨b5, 0, none⟩)), (6, .int .i64 q1), (7, .int .i64 q2), (8, .int .i64 q3), (9, .int .i64 t.mv.length), (10, .slice A10 ms.length z10), (11, .slice s.2.1.1 s.1.length s.2.1.2), (14, .int .i64 s.1.length)]) (fun s W => (PG q3 l2 bm s.1 s.2.2.2.1 s.2.2.2.2 ∧ s.2.2.2.1.length ≤ s.2.2.1.2 ∧ Rd (kInt .u8) w s.2.2.1.1 s.2.2.2.1 ∧ (s.2.2.2.2 = false → q3 ≤ s.1.length)) ∧ Holds w [Row (fInt .i64) 3 (.slice s.2.1.1 s.1.length s.2.1.2) s.1, Row fMv 48 (.slice A10 ms.length z10) ms, RR fMv 38 48 v1 t.mv, RR (fInt .i64) 39 3 v2 t.go, Blk b5 25 [v1, v2], Blk b17 112 [.slice s.2.2.1.1 s.2.2.2.1.length s.2.2.1.2, .bool s.2.2.2.2], Blk b3 70 [.int .i64 0, .int .i64 0], Blk b2 25 [.slice none 0 0, .slice none 0 0]] W) ?_ ?_
        · refine wc_seq ?_
          refine wc_region ?_
          refine wl_v rfl rfl rfl (v_assign rfl) ?_
          refine wl_nil ?_
          refine wc_block ?_
          refine wc_loop (σ := List Int × (Option Addr × Nat) × (Option Addr × Nat) × List Int × Bool) (fun s => [(2, .pointer (some ⟨b2, 0, none⟩)), (3, .pointer (some ⟨b3, 0, none⟩)), (4, .pointer (some ⟨b17, 0, none⟩)), (5, .pointer (some ⟨b5, 0, none⟩)), (6, .int .i64 q1), (7, .int .i64 q2), (8, .int .i64 q3), (9, .int .i64 t.mv.length), (10, .slice A10 ms.length z10), (11, .slice s.2.1.1 s.1.length s.2.1.2), (14, .int .i64 s.1.length)]) (fun s W => (PG q3 l2 bm s.1 s.2.2.2.1 s.2.2.2.2 ∧ s.2.2.2.1.length ≤ s.2.2.1.2 ∧ Rd (kInt .u8) w s.2.2.1.1 s.2.2.2.1) ∧ Holds w [Row (fInt .i64) 3 (.slice s.2.1.1 s.1.length s.2.1.2) s.1, Row fMv 48 (.slice A10 ms.length z10) ms, RR fMv 38 48 v1 t.mv, RR (fInt .i64) 39 3 v2 t.go, Blk b5 25 [v1, v2], Blk b17 112 [.slice s.2.2.1.1 s.2.2.2.1.length s.2.2.1.2, .bool s.2.2.2.2], Blk b3 70 [.int .i64 0, .int .i64 0], Blk b2 25 [.slice none 0 0, .slice none 0 0]] W) (fun s => l2.length + 2 - s.1.length) ([], (none, 0), (Am, zm), l2, bm) (sc rfl (sc rfl (sc rfl (sc rfl (sc rfl (sc rfl (sc rfl (sc rfl (sc rfl (sc rfl (sc rfl (sn _)))))))))))) ⟨⟨PG.start q3 bm hpm.byt, hcm, hrm⟩, (H.nilrow 3 1).pm (by repeat constructor)⟩ ?_
          rintro ⟨gs, ⟨A11, z11⟩, ⟨Ar, zr⟩, l3, bg⟩ W2 ⟨⟨hpg, hcg, hrg⟩, H⟩
          dsimp only at hpg hcg hrg H ⊢
          have hgs := hpg.sz
          have hll3 := hpg.len
          refine wc_seq ?_
          refine wc_seq ?_
          refine wc_region ?_
          refine wl_v rfl rfl rfl (v_move rfl) ?_
          refine wl_v rfl rfl rfl (v_move rfl) ?_
          refine wl_v rfl rfl rfl (v_lss rfl rfl) ?_
          refine wl_v rfl rfl rfl (v_move rfl) ?_
          refine wl_guard rfl rfl rfl (fun g62 => ?_) (fun g62 => ?_)
          · have g62p := of_decide_eq_true g62
            refine wl_v rfl rfl rfl (v_move rfl) ?_
            refine wl_on' rfl rfl g62 ?_
            refine wl_v rfl rfl rfl (v_nil rfl) ?_
            refine wl_on' rfl rfl g62 ?_
            refine wl_v rfl rfl rfl (v_fb (o2 := 1) fa112_1 rfl rfl) ?_
            refine wl_on' rfl rfl g62 ?_
            refine wl_v rfl rfl rfl (v_load one4 rfl (H.at (by repeat constructor) rfl)) ?_
            refine wl_on' rfl rfl g62 ?_
            refine wl_v rfl rfl rfl (v_not rfl) ?_
            refine wl_v rfl rfl rfl (v_pick_t rfl g62 rfl) ?_
            refine wl_nil ?_
            refine wc_cond rfl (fun c2 => ?_) (fun c2 => ?_)
            · have c2p := of_n_t c2
              subst c2p
              refine wc_skip ?_
              refine wc_seq ?_
              refine wc_block ?_
              refine wc_region ?_
              refine wl_v rfl rfl rfl (v_move rfl) ?_
              refine wl_v rfl rfl rfl (v_move rfl) ?_
              refine wl_call en54 rfl rfl (number_calls (b := b17) (bs := l3) (bad := false) (LL := fun x => [Row (fInt .i64) 3 (.slice A11 gs.length z11) gs, Row fMv 48 (.slice A10 ms.length z10) ms, RR fMv 38 48 v1 t.mv, RR (fInt .i64) 39 3 v2 t.go, Blk b5 25 [v1, v2], Blk b17 112 x, Blk b3 70 [.int .i64 0, .int .i64 0], Blk b2 25 [.slice none 0 0, .slice none 0 0]]) (fun x y => by repeat constructor) hrg hpg.byt (by have := hpg.len; have := hpm.len; have := hpr.len; omega) hcg H) ?_
              rintro _ w24 ⟨Aa, za, rfl, hca, hra, Hc73⟩
              have na := numS_nx false hpg.byt
              have lna := na.le
              obtain ⟨⟨qa, bsa, bada⟩, hqa⟩ : ∃ q, numS l3 false = q := ⟨_, rfl⟩
              rw [hqa] at na lna hca hra Hc73 ⊢
              dsimp only at na lna hca hra Hc73 ⊢
              refine wl_v rfl rfl rfl (v_subi rfl rfl (by omega)) ?_
              refine wl_slit (v := .int .i64 0) (z := [.int .i64 0]) (cs := [.int .i64 ((qa : Int) - 1)]) (sz := 1) Hc73 rfl Try.underlying39 sz3 zv3 (by decide) (by decide) (by kernel_rfl) rfl (by repeat constructor) ?_
              intro b75 w25 hb75 H25 hs25
              refine wl_app1 (f := fInt .i64) (xs := gs) (y' := (qa : Int) - 1) H25 (fun v' => (by repeat constructor)) (by repeat constructor) rfl Try.underlying39 info3 rfl (by decide) rfl rfl rfl (by have := hpg.sz; have := hpm.len; have := hpr.len; omega) (by decide) ?_
              intro A76 z76 w26 H26 hs26
              refine wl_v rfl rfl rfl (v_assign rfl) ?_
              refine wl_nil ?_
              refine wc_region ?_
              refine wl_v rfl rfl rfl (v_move rfl) ?_
              refine wl_v rfl rfl rfl (v_addi rfl rfl (by omega)) ?_
              refine wl_v rfl rfl rfl (v_assign rfl) ?_
              refine wl_nil ?_
              exact ⟨(gs ++ [(qa : Int) - 1], (A76, z76), (Aa, za), bsa, bada), by rw [show ((gs ++ [(qa : Int) - 1]).length : Int) = (gs.length : Int) + 1 by simp]; exact (sc rfl (sc rfl (sc rfl (sc rfl (sc rfl (sc rfl (sc rfl (sc rfl (sc rfl (sc rfl (sc rfl (sn _)))))))))))), ⟨⟨hpg.next (by omega) na, hca, hra⟩, H26.pm (by repeat constructor)⟩, by dsimp only; rw [List.length_append, List.length_singleton]; omega⟩
            · have c2p := of_n_f c2
              refine wc_exit ?_
              first
                | exact ⟨(gs, (A11, z11), (Ar, zr), l3, bg), (sc rfl (sc rfl (sc rfl (sc rfl (sc rfl (sc rfl (sc rfl (sc rfl (sc rfl (sc rfl (sc rfl (sn _)))))))))))), ⟨hpg, hcg, hrg, fun _ => by dsimp only; omega⟩, H⟩
                | exact ⟨(gs, (A11, z11), (Ar, zr), l3, bg), (sc rfl (sc rfl (sc rfl (sc rfl (sc rfl (sc rfl (sc rfl (sc rfl (sc rfl (sc rfl (sc rfl (sn _)))))))))))), ⟨hpg, hcg, hrg, fun hb => absurd (hb.symm.trans c2p) (by simp)⟩, H⟩
          · have g62p := of_decide_eq_false g62
            refine wl_off rfl rfl g62 rfl ?_
            refine wl_off rfl rfl g62 rfl ?_
            refine wl_off rfl rfl g62 rfl ?_
            refine wl_off rfl rfl g62 rfl ?_
            refine wl_v rfl rfl rfl (v_pick_f rfl g62 rfl) ?_
            refine wl_nil ?_
            refine wc_cond_f rfl ?_
            refine wc_exit ?_
            first
              | exact ⟨(gs, (A11, z11), (Ar, zr), l3, bg), (sc rfl (sc rfl (sc rfl (sc rfl (sc rfl (sc rfl (sc rfl (sc rfl (sc rfl (sc rfl (sc rfl (sn _)))))))))))), ⟨hpg, hcg, hrg, fun _ => by dsimp only; omega⟩, H⟩
              | exact ⟨(gs, (A11, z11), (Ar, zr), l3, bg), (sc rfl (sc rfl (sc rfl (sc rfl (sc rfl (sc rfl (sc rfl (sc rfl (sc rfl (sc rfl (sc rfl (sn _)))))))))))), ⟨hpg, hcg, hrg, fun hb => absurd (hb.symm.trans c2p) (by simp)⟩, H⟩
        · rintro ⟨gs, ⟨A11, z11⟩, ⟨Ar, zr⟩, l3, bg⟩ Wm ⟨⟨hpg, hcr, hrr, hgk⟩, H⟩
          dsimp only at hpg hcr hrr hgk H ⊢
          have hll3 := hpg.len
          refine wc_seq ?_
          refine wc_tree [0, 1, 2, 5, 6, 7, 10] (fun W => Holds w [Blk b5 25 [v1, v2], Blk b17 112 [.slice Ar l3.length zr, .bool bg], Blk b3 70 [.int .i64 0, .int .i64 0], Blk b2 25 [.slice none 0 0, .slice none 0 0]] W) mixed ?_
          have Hd := H.drew
          have HSd : Holds w [Blk b5 25 [v1, v2], Blk b17 112 [.slice Ar l3.length zr, .bool bg], Blk b3 70 [.int .i64 0, .int .i64 0], Blk b2 25 [.slice none 0 0, .slice none 0 0]] _ := Hd.pm (by repeat constructor)
          refine wj_v (k := 0) rfl (by kernel_rfl) (fun _ _ _ h => h) HSd rfl rfl rfl (fun W HW => v_fb (o2 := 0) fa25_0 rfl rfl) ?_
          refine wj_v (k := 1) rfl (by kernel_rfl) (fun _ _ _ h => h) HSd rfl rfl rfl (fun W HW => v_load one22 rfl (HW.at (by repeat constructor) rfl)) ?_
          refine wj_v (k := 2) rfl (by kernel_rfl) (fun _ _ _ h => h) HSd rfl rfl rfl (fun W HW => v_move rfl) ?_
          refine wj_v (k := 5) rfl (by kernel_rfl) (fun _ _ _ h => h) HSd rfl rfl rfl (fun W HW => v_fb (o2 := 1) fa25_1 rfl rfl) ?_
          refine wj_v (k := 6) rfl (by kernel_rfl) (fun _ _ _ h => h) HSd rfl rfl rfl (fun W HW => v_load one23 rfl (HW.at (by repeat constructor) rfl)) ?_
          refine wj_v (k := 7) rfl (by kernel_rfl) (fun _ _ _ h => h) HSd rfl rfl rfl (fun W HW => v_move rfl) ?_
          refine wj_2 (k := 3) (k2 := 8) rfl rfl (by kernel_rfl) ?_ ?_
          · refine wl_slit (v := .slice none 0 0) (z := [.slice none 0 0]) (cs := [.slice A10 ms.length z10]) (sz := 1) Hd rfl Try.underlying22 sz38 zv38 (by decide) (by decide) (by kernel_rfl) rfl (by repeat constructor) ?_
            intro b80 w27 hb80 H27 hs27
            have HS28 : Holds w [Blk b5 25 [v1, v2], Blk b17 112 [.slice Ar l3.length zr, .bool bg], Blk b3 70 [.int .i64 0, .int .i64 0], Blk b2 25 [.slice none 0 0, .slice none 0 0]] _ := H27.pm (by repeat constructor)
            refine wl_nil (tn ⟨fun _ => HS28, ?_⟩)
            refine wj_2 (k := 4) (k2 := 8) rfl rfl (by kernel_rfl) ?_ ?_
            · refine wl_appRR (f := fMv) (e := 38) (e2 := 48) (v := v1) (u := .slice A10 ms.length z10) (xs := ms) (xss := t.mv) H27 (by repeat constructor) (by repeat constructor) (H27.at (by repeat constructor) rfl) rfl Try.underlying22 info38 rfl rfl rfl (by have := hpr.sz; omega) (by decide) ?_
              intro A81 z81 w29 H29 hs29
              have HS30 : Holds w [Blk b5 25 [v1, v2], Blk b17 112 [.slice Ar l3.length zr, .bool bg], Blk b3 70 [.int .i64 0, .int .i64 0], Blk b2 25 [.slice none 0 0, .slice none 0 0]] _ := H29.pm (by repeat constructor)
              refine wl_nil (tn ⟨fun _ => HS30, ?_⟩)
              refine wj_v (k := 10) rfl (by kernel_rfl) (fun _ _ _ h => h) HS30 rfl rfl rfl (fun W HW => v_fb (o2 := 0) fa25_0 rfl rfl) ?_
              refine wj_t (k := 8) rfl (by kernel_rfl) ?_
              refine wl_slit (v := .slice none 0 0) (z := [.slice none 0 0]) (cs := [.slice A11 gs.length z11]) (sz := 1) H29 rfl Try.underlying23 sz39 zv39 (by decide) (by decide) (by kernel_rfl) rfl (by repeat constructor) ?_
              intro b85 w31 hb85 H31 hs31
              have HS32 : Holds w [Blk b5 25 [v1, v2], Blk b17 112 [.slice Ar l3.length zr, .bool bg], Blk b3 70 [.int .i64 0, .int .i64 0], Blk b2 25 [.slice none 0 0, .slice none 0 0]] _ := H31.pm (by repeat constructor)
              refine wl_nil (tn ⟨fun _ => HS32, ?_⟩)
              refine wj_t (k := 9) rfl (by kernel_rfl) ?_
              refine wl_appRR (f := fInt .i64) (e := 39) (e2 := 3) (v := v2) (u := .slice A11 gs.length z11) (xs := gs) (xss := t.go) H31 (by repeat constructor) (by repeat constructor) (H31.at (by repeat constructor) rfl) rfl Try.underlying23 info39 rfl rfl rfl (by have := hpr.sz; have := hpr.go; omega) (by decide) ?_
              intro A86 z86 w33 H33 hs33
              have HS34 : Holds w [Blk b5 25 [v1, v2], Blk b17 112 [.slice Ar l3.length zr, .bool bg], Blk b3 70 [.int .i64 0, .int .i64 0], Blk b2 25 [.slice none 0 0, .slice none 0 0]] _ := H33.pm (by repeat constructor)
              refine wl_nil (tn ⟨fun _ => HS34, ?_⟩)
              refine wj_t (k := 11) rfl (by kernel_rfl) ?_
              refine wl_store (vs := [_]) H33 (by repeat constructor) sz22 rfl rfl rfl rfl rfl (by (repeat constructor)) ?_
              intro w35 H36 hw35
              refine wl_nil (tn ⟨fun hlt => absurd hlt (by rw [show allH _ _ _ = true by kernel_rfl]; simp), ?_⟩)
              refine wj_t (k := 12) rfl (by kernel_rfl) ?_
              refine wl_v rfl rfl rfl (v_fb (o2 := 1) fa25_1 rfl rfl) ?_
              refine wl_nil (tn ⟨fun hlt => absurd hlt (by rw [show allH _ _ _ = true by kernel_rfl]; simp), ?_⟩)
              refine wj_t (k := 13) rfl (by kernel_rfl) ?_
              refine wl_store (vs := [_]) H36 (by repeat constructor) sz23 rfl rfl rfl rfl rfl (by (repeat constructor)) ?_
              intro w39 H40 hw39
              refine wl_nil (tn ⟨fun hlt => absurd hlt (by rw [show allH _ _ _ = true by kernel_rfl]; simp), ?_⟩)
              refine wj_done (by kernel_rfl) ?_
              refine wc_region ?_
              refine wl_v rfl rfl rfl (v_move rfl) ?_
              refine wl_v rfl rfl rfl (v_move rfl) ?_
              refine wl_v rfl rfl rfl (v_nil rfl) ?_
              refine wl_v rfl rfl rfl (v_fb (o2 := 1) fa112_1 rfl rfl) ?_
              refine wl_v rfl rfl rfl (v_load one4 rfl (H40.at (by repeat constructor) rfl)) ?_
              refine wl_v rfl rfl rfl (v_move rfl) ?_
              refine wl_guard rfl rfl rfl (fun g94 => ?_) (fun g94 => ?_)
              · refine wl_v rfl rfl rfl (v_move rfl) ?_
                refine wl_on' rfl rfl g94 ?_
                refine wl_v rfl rfl rfl (v_eql rfl rfl) ?_
                refine wl_v rfl rfl rfl (v_pick_f rfl g94 rfl) ?_
                refine wl_v rfl rfl rfl (v_nil rfl) ?_
                refine wl_v rfl rfl rfl (v_fb (o2 := 1) fa112_1 rfl rfl) ?_
                refine wl_store (vs := [_]) H40 (by repeat constructor) sz4 rfl rfl rfl rfl rfl (by (repeat constructor)) ?_
                intro w42 H43 hw42
                refine wl_nil ?_
                refine wc_region ?_
                refine wl_v rfl rfl rfl (v_move rfl) ?_
                refine wl_v rfl rfl rfl (v_addi rfl rfl (by omega)) ?_
                refine wl_v rfl rfl rfl (v_assign rfl) ?_
                refine wl_nil ?_
                first
                  | exact ⟨(⟨t.mv ++ [ms], t.go ++ [gs]⟩, (Ar, zr), l3, true), by rw [show ((t.mv ++ [ms]).length : Int) = (t.mv.length : Int) + 1 by simp]; exact (sc rfl (sc rfl (sc rfl (sc rfl (sc rfl (sc rfl (sc rfl (sc rfl (sn _))))))))), ⟨⟨hpr.next (by omega) hpm hmk hpg hgk (fun h => (by cases h)) (fun _ => .inl g94), hcr, hrr⟩, _, _, H43.pm (by repeat constructor)⟩, by dsimp only; rw [List.length_append, List.length_singleton]; omega⟩
                  | exact ⟨(⟨t.mv ++ [ms], t.go ++ [gs]⟩, (Ar, zr), l3, (decide ((q2 : Int) = 0))), by rw [show ((t.mv ++ [ms]).length : Int) = (t.mv.length : Int) + 1 by simp]; exact (sc rfl (sc rfl (sc rfl (sc rfl (sc rfl (sc rfl (sc rfl (sc rfl (sn _))))))))), ⟨⟨hpr.next (by omega) hpm hmk hpg hgk (fun h => ⟨g94, .inl (by have := of_decide_eq_false h; omega)⟩) (fun h => .inr (by have := of_decide_eq_true h; omega)), hcr, hrr⟩, _, _, H43.pm (by repeat constructor)⟩, by dsimp only; rw [List.length_append, List.length_singleton]; omega⟩
              · refine wl_off rfl rfl g94 rfl ?_
                refine wl_v rfl rfl rfl (v_pick_t rfl g94 rfl) ?_
                refine wl_v rfl rfl rfl (v_nil rfl) ?_
                refine wl_v rfl rfl rfl (v_fb (o2 := 1) fa112_1 rfl rfl) ?_
                refine wl_store (vs := [_]) H40 (by repeat constructor) sz4 rfl rfl rfl rfl rfl (by (repeat constructor)) ?_
                intro w44 H45 hw44
                refine wl_nil ?_
                refine wc_region ?_
                refine wl_v rfl rfl rfl (v_move rfl) ?_
                refine wl_v rfl rfl rfl (v_addi rfl rfl (by omega)) ?_
                refine wl_v rfl rfl rfl (v_assign rfl) ?_
                refine wl_nil ?_
                first
                  | exact ⟨(⟨t.mv ++ [ms], t.go ++ [gs]⟩, (Ar, zr), l3, true), by rw [show ((t.mv ++ [ms]).length : Int) = (t.mv.length : Int) + 1 by simp]; exact (sc rfl (sc rfl (sc rfl (sc rfl (sc rfl (sc rfl (sc rfl (sc rfl (sn _))))))))), ⟨⟨hpr.next (by omega) hpm hmk hpg hgk (fun h => (by cases h)) (fun _ => .inl g94), hcr, hrr⟩, _, _, H45.pm (by repeat constructor)⟩, by dsimp only; rw [List.length_append, List.length_singleton]; omega⟩
                  | exact ⟨(⟨t.mv ++ [ms], t.go ++ [gs]⟩, (Ar, zr), l3, (decide ((q2 : Int) = 0))), by rw [show ((t.mv ++ [ms]).length : Int) = (t.mv.length : Int) + 1 by simp]; exact (sc rfl (sc rfl (sc rfl (sc rfl (sc rfl (sc rfl (sc rfl (sc rfl (sn _))))))))), ⟨⟨hpr.next (by omega) hpm hmk hpg hgk (fun h => ⟨g94, .inl (by have := of_decide_eq_false h; omega)⟩) (fun h => .inr (by have := of_decide_eq_true h; omega)), hcr, hrr⟩, _, _, H45.pm (by repeat constructor)⟩, by dsimp only; rw [List.length_append, List.length_singleton]; omega⟩
            · refine wl_slit (v := .slice none 0 0) (z := [.slice none 0 0]) (cs := [.slice A11 gs.length z11]) (sz := 1) H27 rfl Try.underlying23 sz39 zv39 (by decide) (by decide) (by kernel_rfl) rfl (by repeat constructor) ?_
              intro b85 w46 hb85 H46 hs46
              have HS47 : Holds w [Blk b5 25 [v1, v2], Blk b17 112 [.slice Ar l3.length zr, .bool bg], Blk b3 70 [.int .i64 0, .int .i64 0], Blk b2 25 [.slice none 0 0, .slice none 0 0]] _ := H46.pm (by repeat constructor)
              refine wl_nil (tn ⟨fun _ => HS47, ?_⟩)
              refine wj_t (k := 4) rfl (by kernel_rfl) ?_
              refine wl_appRR (f := fMv) (e := 38) (e2 := 48) (v := v1) (u := .slice A10 ms.length z10) (xs := ms) (xss := t.mv) H46 (by repeat constructor) (by repeat constructor) (H46.at (by repeat constructor) rfl) rfl Try.underlying22 info38 rfl rfl rfl (by have := hpr.sz; omega) (by decide) ?_
              intro A81 z81 w48 H48 hs48
              have HS49 : Holds w [Blk b5 25 [v1, v2], Blk b17 112 [.slice Ar l3.length zr, .bool bg], Blk b3 70 [.int .i64 0, .int .i64 0], Blk b2 25 [.slice none 0 0, .slice none 0 0]] _ := H48.pm (by repeat constructor)
              refine wl_nil (tn ⟨fun _ => HS49, ?_⟩)
              refine wj_v (k := 10) rfl (by kernel_rfl) (fun _ _ _ h => h) HS49 rfl rfl rfl (fun W HW => v_fb (o2 := 0) fa25_0 rfl rfl) ?_
              refine wj_t (k := 9) rfl (by kernel_rfl) ?_
              refine wl_appRR (f := fInt .i64) (e := 39) (e2 := 3) (v := v2) (u := .slice A11 gs.length z11) (xs := gs) (xss := t.go) H48 (by repeat constructor) (by repeat constructor) (H48.at (by repeat constructor) rfl) rfl Try.underlying23 info39 rfl rfl rfl (by have := hpr.sz; have := hpr.go; omega) (by decide) ?_
              intro A86 z86 w50 H50 hs50
              have HS51 : Holds w [Blk b5 25 [v1, v2], Blk b17 112 [.slice Ar l3.length zr, .bool bg], Blk b3 70 [.int .i64 0, .int .i64 0], Blk b2 25 [.slice none 0 0, .slice none 0 0]] _ := H50.pm (by repeat constructor)
              refine wl_nil (tn ⟨fun _ => HS51, ?_⟩)
              refine wj_t (k := 11) rfl (by kernel_rfl) ?_
              refine wl_store (vs := [_]) H50 (by repeat constructor) sz22 rfl rfl rfl rfl rfl (by (repeat constructor)) ?_
              intro w52 H53 hw52
              refine wl_nil (tn ⟨fun hlt => absurd hlt (by rw [show allH _ _ _ = true by kernel_rfl]; simp), ?_⟩)
              refine wj_t (k := 12) rfl (by kernel_rfl) ?_
              refine wl_v rfl rfl rfl (v_fb (o2 := 1) fa25_1 rfl rfl) ?_
              refine wl_nil (tn ⟨fun hlt => absurd hlt (by rw [show allH _ _ _ = true by kernel_rfl]; simp), ?_⟩)
              refine wj_t (k := 13) rfl (by kernel_rfl) ?_
              refine wl_store (vs := [_]) H53 (by repeat constructor) sz23 rfl rfl rfl rfl rfl (by (repeat constructor)) ?_
              intro w56 H57 hw56
              refine wl_nil (tn ⟨fun hlt => absurd hlt (by rw [show allH _ _ _ = true by kernel_rfl]; simp), ?_⟩)
              refine wj_done (by kernel_rfl) ?_
              refine wc_region ?_
              refine wl_v rfl rfl rfl (v_move rfl) ?_
              refine wl_v rfl rfl rfl (v_move rfl) ?_
              refine wl_v rfl rfl rfl (v_nil rfl) ?_
              refine wl_v rfl rfl rfl (v_fb (o2 := 1) fa112_1 rfl rfl) ?_
              refine wl_v rfl rfl rfl (v_load one4 rfl (H57.at (by repeat constructor) rfl)) ?_
              refine wl_v rfl rfl rfl (v_move rfl) ?_
              refine wl_guard rfl rfl rfl (fun g94 => ?_) (fun g94 => ?_)
              · refine wl_v rfl rfl rfl (v_move rfl) ?_
                refine wl_on' rfl rfl g94 ?_
                refine wl_v rfl rfl rfl (v_eql rfl rfl) ?_
                refine wl_v rfl rfl rfl (v_pick_f rfl g94 rfl) ?_
                refine wl_v rfl rfl rfl (v_nil rfl) ?_
                refine wl_v rfl rfl rfl (v_fb (o2 := 1) fa112_1 rfl rfl) ?_
                refine wl_store (vs := [_]) H57 (by repeat constructor) sz4 rfl rfl rfl rfl rfl (by (repeat constructor)) ?_
                intro w59 H60 hw59
                refine wl_nil ?_
                refine wc_region ?_
                refine wl_v rfl rfl rfl (v_move rfl) ?_
                refine wl_v rfl rfl rfl (v_addi rfl rfl (by omega)) ?_
                refine wl_v rfl rfl rfl (v_assign rfl) ?_
                refine wl_nil ?_
                first
                  | exact ⟨(⟨t.mv ++ [ms], t.go ++ [gs]⟩, (Ar, zr), l3, true), by rw [show ((t.mv ++ [ms]).length : Int) = (t.mv.length : Int) + 1 by simp]; exact (sc rfl (sc rfl (sc rfl (sc rfl (sc rfl (sc rfl (sc rfl (sc rfl (sn _))))))))), ⟨⟨hpr.next (by omega) hpm hmk hpg hgk (fun h => (by cases h)) (fun _ => .inl g94), hcr, hrr⟩, _, _, H60.pm (by repeat constructor)⟩, by dsimp only; rw [List.length_append, List.length_singleton]; omega⟩
                  | exact ⟨(⟨t.mv ++ [ms], t.go ++ [gs]⟩, (Ar, zr), l3, (decide ((q2 : Int) = 0))), by rw [show ((t.mv ++ [ms]).length : Int) = (t.mv.length : Int) + 1 by simp]; exact (sc rfl (sc rfl (sc rfl (sc rfl (sc rfl (sc rfl (sc rfl (sc rfl (sn _))))))))), ⟨⟨hpr.next (by omega) hpm hmk hpg hgk (fun h => ⟨g94, .inl (by have := of_decide_eq_false h; omega)⟩) (fun h => .inr (by have := of_decide_eq_true h; omega)), hcr, hrr⟩, _, _, H60.pm (by repeat constructor)⟩, by dsimp only; rw [List.length_append, List.length_singleton]; omega⟩
              · refine wl_off rfl rfl g94 rfl ?_
                refine wl_v rfl rfl rfl (v_pick_t rfl g94 rfl) ?_
                refine wl_v rfl rfl rfl (v_nil rfl) ?_
                refine wl_v rfl rfl rfl (v_fb (o2 := 1) fa112_1 rfl rfl) ?_
                refine wl_store (vs := [_]) H57 (by repeat constructor) sz4 rfl rfl rfl rfl rfl (by (repeat constructor)) ?_
                intro w61 H62 hw61
                refine wl_nil ?_
                refine wc_region ?_
                refine wl_v rfl rfl rfl (v_move rfl) ?_
                refine wl_v rfl rfl rfl (v_addi rfl rfl (by omega)) ?_
                refine wl_v rfl rfl rfl (v_assign rfl) ?_
                refine wl_nil ?_
                first
                  | exact ⟨(⟨t.mv ++ [ms], t.go ++ [gs]⟩, (Ar, zr), l3, true), by rw [show ((t.mv ++ [ms]).length : Int) = (t.mv.length : Int) + 1 by simp]; exact (sc rfl (sc rfl (sc rfl (sc rfl (sc rfl (sc rfl (sc rfl (sc rfl (sn _))))))))), ⟨⟨hpr.next (by omega) hpm hmk hpg hgk (fun h => (by cases h)) (fun _ => .inl g94), hcr, hrr⟩, _, _, H62.pm (by repeat constructor)⟩, by dsimp only; rw [List.length_append, List.length_singleton]; omega⟩
                  | exact ⟨(⟨t.mv ++ [ms], t.go ++ [gs]⟩, (Ar, zr), l3, (decide ((q2 : Int) = 0))), by rw [show ((t.mv ++ [ms]).length : Int) = (t.mv.length : Int) + 1 by simp]; exact (sc rfl (sc rfl (sc rfl (sc rfl (sc rfl (sc rfl (sc rfl (sc rfl (sn _))))))))), ⟨⟨hpr.next (by omega) hpm hmk hpg hgk (fun h => ⟨g94, .inl (by have := of_decide_eq_false h; omega)⟩) (fun h => .inr (by have := of_decide_eq_true h; omega)), hcr, hrr⟩, _, _, H62.pm (by repeat constructor)⟩, by dsimp only; rw [List.length_append, List.length_singleton]; omega⟩
          · refine wl_slit (v := .slice none 0 0) (z := [.slice none 0 0]) (cs := [.slice A11 gs.length z11]) (sz := 1) Hd rfl Try.underlying23 sz39 zv39 (by decide) (by decide) (by kernel_rfl) rfl (by repeat constructor) ?_
            intro b85 w63 hb85 H63 hs63
            have HS64 : Holds w [Blk b5 25 [v1, v2], Blk b17 112 [.slice Ar l3.length zr, .bool bg], Blk b3 70 [.int .i64 0, .int .i64 0], Blk b2 25 [.slice none 0 0, .slice none 0 0]] _ := H63.pm (by repeat constructor)
            refine wl_nil (tn ⟨fun _ => HS64, ?_⟩)
            refine wj_t (k := 3) rfl (by kernel_rfl) ?_
            refine wl_slit (v := .slice none 0 0) (z := [.slice none 0 0]) (cs := [.slice A10 ms.length z10]) (sz := 1) H63 rfl Try.underlying22 sz38 zv38 (by decide) (by decide) (by kernel_rfl) rfl (by repeat constructor) ?_
            intro b80 w65 hb80 H65 hs65
            have HS66 : Holds w [Blk b5 25 [v1, v2], Blk b17 112 [.slice Ar l3.length zr, .bool bg], Blk b3 70 [.int .i64 0, .int .i64 0], Blk b2 25 [.slice none 0 0, .slice none 0 0]] _ := H65.pm (by repeat constructor)
            refine wl_nil (tn ⟨fun _ => HS66, ?_⟩)
            refine wj_t (k := 4) rfl (by kernel_rfl) ?_
            refine wl_appRR (f := fMv) (e := 38) (e2 := 48) (v := v1) (u := .slice A10 ms.length z10) (xs := ms) (xss := t.mv) H65 (by repeat constructor) (by repeat constructor) (H65.at (by repeat constructor) rfl) rfl Try.underlying22 info38 rfl rfl rfl (by have := hpr.sz; omega) (by decide) ?_
            intro A81 z81 w67 H67 hs67
            have HS68 : Holds w [Blk b5 25 [v1, v2], Blk b17 112 [.slice Ar l3.length zr, .bool bg], Blk b3 70 [.int .i64 0, .int .i64 0], Blk b2 25 [.slice none 0 0, .slice none 0 0]] _ := H67.pm (by repeat constructor)
            refine wl_nil (tn ⟨fun _ => HS68, ?_⟩)
            refine wj_v (k := 10) rfl (by kernel_rfl) (fun _ _ _ h => h) HS68 rfl rfl rfl (fun W HW => v_fb (o2 := 0) fa25_0 rfl rfl) ?_
            refine wj_t (k := 9) rfl (by kernel_rfl) ?_
            refine wl_appRR (f := fInt .i64) (e := 39) (e2 := 3) (v := v2) (u := .slice A11 gs.length z11) (xs := gs) (xss := t.go) H67 (by repeat constructor) (by repeat constructor) (H67.at (by repeat constructor) rfl) rfl Try.underlying23 info39 rfl rfl rfl (by have := hpr.sz; have := hpr.go; omega) (by decide) ?_
            intro A86 z86 w69 H69 hs69
            have HS70 : Holds w [Blk b5 25 [v1, v2], Blk b17 112 [.slice Ar l3.length zr, .bool bg], Blk b3 70 [.int .i64 0, .int .i64 0], Blk b2 25 [.slice none 0 0, .slice none 0 0]] _ := H69.pm (by repeat constructor)
            refine wl_nil (tn ⟨fun _ => HS70, ?_⟩)
            refine wj_t (k := 11) rfl (by kernel_rfl) ?_
            refine wl_store (vs := [_]) H69 (by repeat constructor) sz22 rfl rfl rfl rfl rfl (by (repeat constructor)) ?_
            intro w71 H72 hw71
            refine wl_nil (tn ⟨fun hlt => absurd hlt (by rw [show allH _ _ _ = true by kernel_rfl]; simp), ?_⟩)
            refine wj_t (k := 12) rfl (by kernel_rfl) ?_
            refine wl_v rfl rfl rfl (v_fb (o2 := 1) fa25_1 rfl rfl) ?_
            refine wl_nil (tn ⟨fun hlt => absurd hlt (by rw [show allH _ _ _ = true by kernel_rfl]; simp), ?_⟩)
            refine wj_t (k := 13) rfl (by kernel_rfl) ?_
            refine wl_store (vs := [_]) H72 (by repeat constructor) sz23 rfl rfl rfl rfl rfl (by (repeat constructor)) ?_
            intro w75 H76 hw75
            refine wl_nil (tn ⟨fun hlt => absurd hlt (by rw [show allH _ _ _ = true by kernel_rfl]; simp), ?_⟩)
            refine wj_done (by kernel_rfl) ?_
            refine wc_region ?_
            refine wl_v rfl rfl rfl (v_move rfl) ?_
            refine wl_v rfl rfl rfl (v_move rfl) ?_
            refine wl_v rfl rfl rfl (v_nil rfl) ?_
            refine wl_v rfl rfl rfl (v_fb (o2 := 1) fa112_1 rfl rfl) ?_
            refine wl_v rfl rfl rfl (v_load one4 rfl (H76.at (by repeat constructor) rfl)) ?_
            refine wl_v rfl rfl rfl (v_move rfl) ?_
            refine wl_guard rfl rfl rfl (fun g94 => ?_) (fun g94 => ?_)
            · refine wl_v rfl rfl rfl (v_move rfl) ?_
              refine wl_on' rfl rfl g94 ?_
              refine wl_v rfl rfl rfl (v_eql rfl rfl) ?_
              refine wl_v rfl rfl rfl (v_pick_f rfl g94 rfl) ?_
              refine wl_v rfl rfl rfl (v_nil rfl) ?_
              refine wl_v rfl rfl rfl (v_fb (o2 := 1) fa112_1 rfl rfl) ?_
              refine wl_store (vs := [_]) H76 (by repeat constructor) sz4 rfl rfl rfl rfl rfl (by (repeat constructor)) ?_
              intro w78 H79 hw78
              refine wl_nil ?_
              refine wc_region ?_
              refine wl_v rfl rfl rfl (v_move rfl) ?_
              refine wl_v rfl rfl rfl (v_addi rfl rfl (by omega)) ?_
              refine wl_v rfl rfl rfl (v_assign rfl) ?_
              refine wl_nil ?_
              first
                | exact ⟨(⟨t.mv ++ [ms], t.go ++ [gs]⟩, (Ar, zr), l3, true), by rw [show ((t.mv ++ [ms]).length : Int) = (t.mv.length : Int) + 1 by simp]; exact (sc rfl (sc rfl (sc rfl (sc rfl (sc rfl (sc rfl (sc rfl (sc rfl (sn _))))))))), ⟨⟨hpr.next (by omega) hpm hmk hpg hgk (fun h => (by cases h)) (fun _ => .inl g94), hcr, hrr⟩, _, _, H79.pm (by repeat constructor)⟩, by dsimp only; rw [List.length_append, List.length_singleton]; omega⟩
                | exact ⟨(⟨t.mv ++ [ms], t.go ++ [gs]⟩, (Ar, zr), l3, (decide ((q2 : Int) = 0))), by rw [show ((t.mv ++ [ms]).length : Int) = (t.mv.length : Int) + 1 by simp]; exact (sc rfl (sc rfl (sc rfl (sc rfl (sc rfl (sc rfl (sc rfl (sc rfl (sn _))))))))), ⟨⟨hpr.next (by omega) hpm hmk hpg hgk (fun h => ⟨g94, .inl (by have := of_decide_eq_false h; omega)⟩) (fun h => .inr (by have := of_decide_eq_true h; omega)), hcr, hrr⟩, _, _, H79.pm (by repeat constructor)⟩, by dsimp only; rw [List.length_append, List.length_singleton]; omega⟩
            · refine wl_off rfl rfl g94 rfl ?_
              refine wl_v rfl rfl rfl (v_pick_t rfl g94 rfl) ?_
              refine wl_v rfl rfl rfl (v_nil rfl) ?_
              refine wl_v rfl rfl rfl (v_fb (o2 := 1) fa112_1 rfl rfl) ?_
              refine wl_store (vs := [_]) H76 (by repeat constructor) sz4 rfl rfl rfl rfl rfl (by (repeat constructor)) ?_
              intro w80 H81 hw80
              refine wl_nil ?_
              refine wc_region ?_
              refine wl_v rfl rfl rfl (v_move rfl) ?_
              refine wl_v rfl rfl rfl (v_addi rfl rfl (by omega)) ?_
              refine wl_v rfl rfl rfl (v_assign rfl) ?_
              refine wl_nil ?_
              first
                | exact ⟨(⟨t.mv ++ [ms], t.go ++ [gs]⟩, (Ar, zr), l3, true), by rw [show ((t.mv ++ [ms]).length : Int) = (t.mv.length : Int) + 1 by simp]; exact (sc rfl (sc rfl (sc rfl (sc rfl (sc rfl (sc rfl (sc rfl (sc rfl (sn _))))))))), ⟨⟨hpr.next (by omega) hpm hmk hpg hgk (fun h => (by cases h)) (fun _ => .inl g94), hcr, hrr⟩, _, _, H81.pm (by repeat constructor)⟩, by dsimp only; rw [List.length_append, List.length_singleton]; omega⟩
                | exact ⟨(⟨t.mv ++ [ms], t.go ++ [gs]⟩, (Ar, zr), l3, (decide ((q2 : Int) = 0))), by rw [show ((t.mv ++ [ms]).length : Int) = (t.mv.length : Int) + 1 by simp]; exact (sc rfl (sc rfl (sc rfl (sc rfl (sc rfl (sc rfl (sc rfl (sc rfl (sn _))))))))), ⟨⟨hpr.next (by omega) hpm hmk hpg hgk (fun h => ⟨g94, .inl (by have := of_decide_eq_false h; omega)⟩) (fun h => .inr (by have := of_decide_eq_true h; omega)), hcr, hrr⟩, _, _, H81.pm (by repeat constructor)⟩, by dsimp only; rw [List.length_append, List.length_singleton]; omega⟩
    · have c0p := of_n_f c0
      obtain ⟨A1, k1, rfl, _⟩ := H.rr (f := fMv) (e := 38) (e2 := 48) (v := v1) (xss := t.mv) (by repeat constructor)
      obtain ⟨A2, k2, rfl, _⟩ := H.rr (f := fInt .i64) (e := 39) (e2 := 3) (v := v2) (xss := t.go) (by repeat constructor)
      refine wc_exit ?_
      refine wc_seq ?_
      refine wc_seq ?_
      refine wc_region ?_
      refine wl_v rfl rfl rfl (v_move rfl) ?_
      refine wl_v rfl rfl rfl (v_nil rfl) ?_
      refine wl_v rfl rfl rfl (v_fb (o2 := 1) fa112_1 rfl rfl) ?_
      refine wl_v rfl rfl rfl (v_load one4 rfl (H.at (by repeat constructor) rfl)) ?_
      refine wl_v rfl rfl rfl (v_move rfl) ?_
      refine wl_guard rfl rfl rfl (fun g104 => ?_) (fun g104 => ?_)
      · refine wl_v rfl rfl rfl (v_move rfl) ?_
        refine wl_on' rfl rfl g104 ?_
        refine wl_v rfl rfl rfl (v_nil rfl) ?_
        refine wl_on' rfl rfl g104 ?_
        refine wl_v rfl rfl rfl (v_fb (o2 := 0) fa112_0 rfl rfl) ?_
        refine wl_on' rfl rfl g104 ?_
        refine wl_v rfl rfl rfl (v_load one64 rfl (H.at (by repeat constructor) rfl)) ?_
        refine wl_on' rfl rfl g104 ?_
        refine wl_v rfl rfl rfl (v_len Try.underlying64 rfl) ?_
        refine wl_on' rfl rfl g104 ?_
        refine wl_v rfl rfl rfl (v_gtr rfl rfl) ?_
        refine wl_v rfl rfl rfl (v_pick_f rfl g104 rfl) ?_
        refine wl_v rfl rfl rfl (v_move rfl) ?_
        refine wl_guard rfl rfl rfl (fun g112 => ?_) (fun g112 => ?_)
        · have g112p := of_decide_eq_false g112
          refine wl_v rfl rfl rfl (v_loadN agg25 rfl rfl (H.ats (by repeat constructor))) ?_
          refine wl_on' rfl rfl g112 ?_
          refine wl_call en32 rfl rfl (even_calls ⟨H.rrR (f := fMv) (e := 38) (e2 := 48) (A := A1) (xss := t.mv) (by repeat constructor), H.rrR (f := fInt .i64) (e := 39) (e2 := 3) (A := A2) (xss := t.go) (by repeat constructor)⟩ (hpr.tok2 hl)) ?_
          rintro _ w82 ⟨rfl, Hc⟩
          have H83 := H.call0 Hc
          refine wl_on' rfl rfl g112 ?_
          refine wl_v rfl rfl rfl (v_not rfl) ?_
          refine wl_v rfl rfl rfl (v_pick_f rfl g112 rfl) ?_
          refine wl_nil ?_
          refine wc_cond rfl (fun c3 => ?_) (fun c3 => ?_)
          · have c3p := of_n_t c3
            refine wc_seq ?_
            refine wc_region ?_
            refine wl_v rfl rfl rfl (v_bld ba25 rfl (by repeat constructor)) ?_
            refine wl_v rfl rfl rfl (v_bld ba70 rfl (by repeat constructor)) ?_
            refine wl_store (vs := [_, _]) H83 (by repeat constructor) sz25 rfl rfl rfl rfl rfl (by (repeat constructor)) ?_
            intro w84 H85 hw84
            refine wl_store (vs := [_, _]) H85 (by repeat constructor) sz70 rfl rfl rfl rfl rfl (by (repeat constructor)) ?_
            intro w86 H87 hw86
            refine wl_nil ?_
            refine wc_ret ?_
            first
              | exact absurd (c0p.symm.trans g104) Bool.noConfusion
              | (have hd : readP bs = none := by
                   first
                     | exact readP_bad hB (hpr.bad g104)
                     | exact readP_bad hB (hpr.bad c0p)
                     | (subst g104
                        rw [hpr.fin (by omega), dec_f (fun h => by have := congrArg List.length h.1; simp only [List.length_nil] at this; omega)]
                        rfl)
                     | (subst g104
                        rw [hpr.fin (by omega), dec_f (fun h => of_ndec c3p h.2)]
                        rfl)
                 obtain ⟨d1, d2⟩ := rd_none hd
                 rw [d1, d2]
                 exact ⟨_, resc3 rfl rfl (run_loadVarN agg25 rfl (H87.ats (by repeat constructor))) rfl (run_loadVarN agg70 rfl (H87.ats (by repeat constructor))), _, _, rfl, ((H87.rrNil fMv 38 48).rrNil (fInt .i64) 39 3).pm (by repeat constructor)⟩)
              | (have hd : readP bs = some t := by
                   subst g104
                   rw [hpr.fin (by omega), dec_t ⟨List.eq_nil_of_length_eq_zero (by omega), of_dec c3p⟩]
                   rfl
                 obtain ⟨d1, d2⟩ := rd_some hd
                 rw [d1, d2]
                 exact ⟨_, resc3 rfl rfl (run_loadVarN agg25 rfl (H87.ats (by repeat constructor))) rfl (run_loadVarN agg70 rfl (H87.ats (by repeat constructor))), _, _, rfl, H87.pm (by repeat constructor)⟩)
          · have c3p := of_n_f c3
            refine wc_skip ?_
            refine wc_seq ?_
            refine wc_region ?_
            refine wl_v rfl rfl rfl (v_loadN agg25 rfl rfl (H83.ats (by repeat constructor))) ?_
            refine wl_v rfl rfl rfl (v_bld ba70 rfl (by repeat constructor)) ?_
            refine wl_store (vs := [_, _]) H83 (by repeat constructor) sz25 rfl rfl rfl rfl rfl (by (repeat constructor)) ?_
            intro w88 H89 hw88
            refine wl_store (vs := [_, _]) H89 (by repeat constructor) sz70 rfl rfl rfl rfl rfl (by (repeat constructor)) ?_
            intro w90 H91 hw90
            refine wl_nil ?_
            refine wc_ret ?_
            first
              | exact absurd (c0p.symm.trans g104) Bool.noConfusion
              | (have hd : readP bs = none := by
                   first
                     | exact readP_bad hB (hpr.bad g104)
                     | exact readP_bad hB (hpr.bad c0p)
                     | (subst g104
                        rw [hpr.fin (by omega), dec_f (fun h => by have := congrArg List.length h.1; simp only [List.length_nil] at this; omega)]
                        rfl)
                     | (subst g104
                        rw [hpr.fin (by omega), dec_f (fun h => of_ndec c3p h.2)]
                        rfl)
                 obtain ⟨d1, d2⟩ := rd_none hd
                 rw [d1, d2]
                 exact ⟨_, resc3 rfl rfl (run_loadVarN agg25 rfl (H91.ats (by repeat constructor))) rfl (run_loadVarN agg70 rfl (H91.ats (by repeat constructor))), _, _, rfl, ((H91.rrNil fMv 38 48).rrNil (fInt .i64) 39 3).pm (by repeat constructor)⟩)
              | (have hd : readP bs = some t := by
                   subst g104
                   rw [hpr.fin (by omega), dec_t ⟨List.eq_nil_of_length_eq_zero (by omega), of_dec c3p⟩]
                   rfl
                 obtain ⟨d1, d2⟩ := rd_some hd
                 rw [d1, d2]
                 exact ⟨_, resc3 rfl rfl (run_loadVarN agg25 rfl (H91.ats (by repeat constructor))) rfl (run_loadVarN agg70 rfl (H91.ats (by repeat constructor))), _, _, rfl, H91.pm (by repeat constructor)⟩)
        · have g112p := of_decide_eq_true g112
          refine wl_off rfl rfl g112 rfl ?_
          refine wl_off rfl rfl g112 rfl ?_
          refine wl_v rfl rfl rfl (v_pick_t rfl g112 rfl) ?_
          refine wl_nil ?_
          refine wc_cond_t rfl ?_
          refine wc_seq ?_
          refine wc_region ?_
          refine wl_v rfl rfl rfl (v_bld ba25 rfl (by repeat constructor)) ?_
          refine wl_v rfl rfl rfl (v_bld ba70 rfl (by repeat constructor)) ?_
          refine wl_store (vs := [_, _]) H (by repeat constructor) sz25 rfl rfl rfl rfl rfl (by (repeat constructor)) ?_
          intro w92 H93 hw92
          refine wl_store (vs := [_, _]) H93 (by repeat constructor) sz70 rfl rfl rfl rfl rfl (by (repeat constructor)) ?_
          intro w94 H95 hw94
          refine wl_nil ?_
          refine wc_ret ?_
          first
            | exact absurd (c0p.symm.trans g104) Bool.noConfusion
            | (have hd : readP bs = none := by
                 first
                   | exact readP_bad hB (hpr.bad g104)
                   | exact readP_bad hB (hpr.bad c0p)
                   | (subst g104
                      rw [hpr.fin (by omega), dec_f (fun h => by have := congrArg List.length h.1; simp only [List.length_nil] at this; omega)]
                      rfl)
                   | (subst g104
                      rw [hpr.fin (by omega), dec_f (fun h => of_ndec c3p h.2)]
                      rfl)
               obtain ⟨d1, d2⟩ := rd_none hd
               rw [d1, d2]
               exact ⟨_, resc3 rfl rfl (run_loadVarN agg25 rfl (H95.ats (by repeat constructor))) rfl (run_loadVarN agg70 rfl (H95.ats (by repeat constructor))), _, _, rfl, ((H95.rrNil fMv 38 48).rrNil (fInt .i64) 39 3).pm (by repeat constructor)⟩)
            | (have hd : readP bs = some t := by
                 subst g104
                 rw [hpr.fin (by omega), dec_t ⟨List.eq_nil_of_length_eq_zero (by omega), of_dec c3p⟩]
                 rfl
               obtain ⟨d1, d2⟩ := rd_some hd
               rw [d1, d2]
               exact ⟨_, resc3 rfl rfl (run_loadVarN agg25 rfl (H95.ats (by repeat constructor))) rfl (run_loadVarN agg70 rfl (H95.ats (by repeat constructor))), _, _, rfl, H95.pm (by repeat constructor)⟩)
      · refine wl_off rfl rfl g104 rfl ?_
        refine wl_off rfl rfl g104 rfl ?_
        refine wl_off rfl rfl g104 rfl ?_
        refine wl_off rfl rfl g104 rfl ?_
        refine wl_off rfl rfl g104 rfl ?_
        refine wl_v rfl rfl rfl (v_pick_t rfl g104 rfl) ?_
        refine wl_v rfl rfl rfl (v_move rfl) ?_
        refine wl_off rfl rfl rfl rfl ?_
        refine wl_off rfl rfl rfl rfl ?_
        refine wl_off rfl rfl rfl rfl ?_
        refine wl_v rfl rfl rfl (v_pick_t rfl rfl rfl) ?_
        refine wl_nil ?_
        refine wc_cond_t rfl ?_
        refine wc_seq ?_
        refine wc_region ?_
        refine wl_v rfl rfl rfl (v_bld ba25 rfl (by repeat constructor)) ?_
        refine wl_v rfl rfl rfl (v_bld ba70 rfl (by repeat constructor)) ?_
        refine wl_store (vs := [_, _]) H (by repeat constructor) sz25 rfl rfl rfl rfl rfl (by (repeat constructor)) ?_
        intro w96 H97 hw96
        refine wl_store (vs := [_, _]) H97 (by repeat constructor) sz70 rfl rfl rfl rfl rfl (by (repeat constructor)) ?_
        intro w98 H99 hw98
        refine wl_nil ?_
        refine wc_ret ?_
        first
          | exact absurd (c0p.symm.trans g104) Bool.noConfusion
          | (have hd : readP bs = none := by
               first
                 | exact readP_bad hB (hpr.bad g104)
                 | exact readP_bad hB (hpr.bad c0p)
                 | (subst g104
                    rw [hpr.fin (by omega), dec_f (fun h => by have := congrArg List.length h.1; simp only [List.length_nil] at this; omega)]
                    rfl)
                 | (subst g104
                    rw [hpr.fin (by omega), dec_f (fun h => of_ndec c3p h.2)]
                    rfl)
             obtain ⟨d1, d2⟩ := rd_none hd
             rw [d1, d2]
             exact ⟨_, resc3 rfl rfl (run_loadVarN agg25 rfl (H99.ats (by repeat constructor))) rfl (run_loadVarN agg70 rfl (H99.ats (by repeat constructor))), _, _, rfl, ((H99.rrNil fMv 38 48).rrNil (fInt .i64) 39 3).pm (by repeat constructor)⟩)
          | (have hd : readP bs = some t := by
               subst g104
               rw [hpr.fin (by omega), dec_t ⟨List.eq_nil_of_length_eq_zero (by omega), of_dec c3p⟩]
               rfl
             obtain ⟨d1, d2⟩ := rd_some hd
             rw [d1, d2]
             exact ⟨_, resc3 rfl rfl (run_loadVarN agg25 rfl (H99.ats (by repeat constructor))) rfl (run_loadVarN agg70 rfl (H99.ats (by repeat constructor))), _, _, rfl, H99.pm (by repeat constructor)⟩)
  · have g28p := of_decide_eq_false g28
    obtain ⟨A1, k1, rfl, _⟩ := H.rr (f := fMv) (e := 38) (e2 := 48) (v := v1) (xss := t.mv) (by repeat constructor)
    obtain ⟨A2, k2, rfl, _⟩ := H.rr (f := fInt .i64) (e := 39) (e2 := 3) (v := v2) (xss := t.go) (by repeat constructor)
    refine wl_off rfl rfl g28 rfl ?_
    refine wl_off rfl rfl g28 rfl ?_
    refine wl_off rfl rfl g28 rfl ?_
    refine wl_off rfl rfl g28 rfl ?_
    refine wl_v rfl rfl rfl (v_pick_f rfl g28 rfl) ?_
    refine wl_nil ?_
    refine wc_cond_f rfl ?_
    refine wc_exit ?_
    refine wc_seq ?_
    refine wc_seq ?_
    refine wc_region ?_
    refine wl_v rfl rfl rfl (v_move rfl) ?_
    refine wl_v rfl rfl rfl (v_nil rfl) ?_
    refine wl_v rfl rfl rfl (v_fb (o2 := 1) fa112_1 rfl rfl) ?_
    refine wl_v rfl rfl rfl (v_load one4 rfl (H.at (by repeat constructor) rfl)) ?_
    refine wl_v rfl rfl rfl (v_move rfl) ?_
    refine wl_guard rfl rfl rfl (fun g104 => ?_) (fun g104 => ?_)
    · refine wl_v rfl rfl rfl (v_move rfl) ?_
      refine wl_on' rfl rfl g104 ?_
      refine wl_v rfl rfl rfl (v_nil rfl) ?_
      refine wl_on' rfl rfl g104 ?_
      refine wl_v rfl rfl rfl (v_fb (o2 := 0) fa112_0 rfl rfl) ?_
      refine wl_on' rfl rfl g104 ?_
      refine wl_v rfl rfl rfl (v_load one64 rfl (H.at (by repeat constructor) rfl)) ?_
      refine wl_on' rfl rfl g104 ?_
      refine wl_v rfl rfl rfl (v_len Try.underlying64 rfl) ?_
      refine wl_on' rfl rfl g104 ?_
      refine wl_v rfl rfl rfl (v_gtr rfl rfl) ?_
      refine wl_v rfl rfl rfl (v_pick_f rfl g104 rfl) ?_
      refine wl_v rfl rfl rfl (v_move rfl) ?_
      refine wl_guard rfl rfl rfl (fun g112 => ?_) (fun g112 => ?_)
      · have g112p := of_decide_eq_false g112
        refine wl_v rfl rfl rfl (v_loadN agg25 rfl rfl (H.ats (by repeat constructor))) ?_
        refine wl_on' rfl rfl g112 ?_
        refine wl_call en32 rfl rfl (even_calls ⟨H.rrR (f := fMv) (e := 38) (e2 := 48) (A := A1) (xss := t.mv) (by repeat constructor), H.rrR (f := fInt .i64) (e := 39) (e2 := 3) (A := A2) (xss := t.go) (by repeat constructor)⟩ (hpr.tok2 hl)) ?_
        rintro _ w100 ⟨rfl, Hc⟩
        have H101 := H.call0 Hc
        refine wl_on' rfl rfl g112 ?_
        refine wl_v rfl rfl rfl (v_not rfl) ?_
        refine wl_v rfl rfl rfl (v_pick_f rfl g112 rfl) ?_
        refine wl_nil ?_
        refine wc_cond rfl (fun c3 => ?_) (fun c3 => ?_)
        · have c3p := of_n_t c3
          refine wc_seq ?_
          refine wc_region ?_
          refine wl_v rfl rfl rfl (v_bld ba25 rfl (by repeat constructor)) ?_
          refine wl_v rfl rfl rfl (v_bld ba70 rfl (by repeat constructor)) ?_
          refine wl_store (vs := [_, _]) H101 (by repeat constructor) sz25 rfl rfl rfl rfl rfl (by (repeat constructor)) ?_
          intro w102 H103 hw102
          refine wl_store (vs := [_, _]) H103 (by repeat constructor) sz70 rfl rfl rfl rfl rfl (by (repeat constructor)) ?_
          intro w104 H105 hw104
          refine wl_nil ?_
          refine wc_ret ?_
          first
            | exact absurd (c0p.symm.trans g104) Bool.noConfusion
            | (have hd : readP bs = none := by
                 first
                   | exact readP_bad hB (hpr.bad g104)
                   | exact readP_bad hB (hpr.bad c0p)
                   | (subst g104
                      rw [hpr.fin (by omega), dec_f (fun h => by have := congrArg List.length h.1; simp only [List.length_nil] at this; omega)]
                      rfl)
                   | (subst g104
                      rw [hpr.fin (by omega), dec_f (fun h => of_ndec c3p h.2)]
                      rfl)
               obtain ⟨d1, d2⟩ := rd_none hd
               rw [d1, d2]
               exact ⟨_, resc3 rfl rfl (run_loadVarN agg25 rfl (H105.ats (by repeat constructor))) rfl (run_loadVarN agg70 rfl (H105.ats (by repeat constructor))), _, _, rfl, ((H105.rrNil fMv 38 48).rrNil (fInt .i64) 39 3).pm (by repeat constructor)⟩)
            | (have hd : readP bs = some t := by
                 subst g104
                 rw [hpr.fin (by omega), dec_t ⟨List.eq_nil_of_length_eq_zero (by omega), of_dec c3p⟩]
                 rfl
               obtain ⟨d1, d2⟩ := rd_some hd
               rw [d1, d2]
               exact ⟨_, resc3 rfl rfl (run_loadVarN agg25 rfl (H105.ats (by repeat constructor))) rfl (run_loadVarN agg70 rfl (H105.ats (by repeat constructor))), _, _, rfl, H105.pm (by repeat constructor)⟩)
        · have c3p := of_n_f c3
          refine wc_skip ?_
          refine wc_seq ?_
          refine wc_region ?_
          refine wl_v rfl rfl rfl (v_loadN agg25 rfl rfl (H101.ats (by repeat constructor))) ?_
          refine wl_v rfl rfl rfl (v_bld ba70 rfl (by repeat constructor)) ?_
          refine wl_store (vs := [_, _]) H101 (by repeat constructor) sz25 rfl rfl rfl rfl rfl (by (repeat constructor)) ?_
          intro w106 H107 hw106
          refine wl_store (vs := [_, _]) H107 (by repeat constructor) sz70 rfl rfl rfl rfl rfl (by (repeat constructor)) ?_
          intro w108 H109 hw108
          refine wl_nil ?_
          refine wc_ret ?_
          first
            | exact absurd (c0p.symm.trans g104) Bool.noConfusion
            | (have hd : readP bs = none := by
                 first
                   | exact readP_bad hB (hpr.bad g104)
                   | exact readP_bad hB (hpr.bad c0p)
                   | (subst g104
                      rw [hpr.fin (by omega), dec_f (fun h => by have := congrArg List.length h.1; simp only [List.length_nil] at this; omega)]
                      rfl)
                   | (subst g104
                      rw [hpr.fin (by omega), dec_f (fun h => of_ndec c3p h.2)]
                      rfl)
               obtain ⟨d1, d2⟩ := rd_none hd
               rw [d1, d2]
               exact ⟨_, resc3 rfl rfl (run_loadVarN agg25 rfl (H109.ats (by repeat constructor))) rfl (run_loadVarN agg70 rfl (H109.ats (by repeat constructor))), _, _, rfl, ((H109.rrNil fMv 38 48).rrNil (fInt .i64) 39 3).pm (by repeat constructor)⟩)
            | (have hd : readP bs = some t := by
                 subst g104
                 rw [hpr.fin (by omega), dec_t ⟨List.eq_nil_of_length_eq_zero (by omega), of_dec c3p⟩]
                 rfl
               obtain ⟨d1, d2⟩ := rd_some hd
               rw [d1, d2]
               exact ⟨_, resc3 rfl rfl (run_loadVarN agg25 rfl (H109.ats (by repeat constructor))) rfl (run_loadVarN agg70 rfl (H109.ats (by repeat constructor))), _, _, rfl, H109.pm (by repeat constructor)⟩)
      · have g112p := of_decide_eq_true g112
        refine wl_off rfl rfl g112 rfl ?_
        refine wl_off rfl rfl g112 rfl ?_
        refine wl_v rfl rfl rfl (v_pick_t rfl g112 rfl) ?_
        refine wl_nil ?_
        refine wc_cond_t rfl ?_
        refine wc_seq ?_
        refine wc_region ?_
        refine wl_v rfl rfl rfl (v_bld ba25 rfl (by repeat constructor)) ?_
        refine wl_v rfl rfl rfl (v_bld ba70 rfl (by repeat constructor)) ?_
        refine wl_store (vs := [_, _]) H (by repeat constructor) sz25 rfl rfl rfl rfl rfl (by (repeat constructor)) ?_
        intro w110 H111 hw110
        refine wl_store (vs := [_, _]) H111 (by repeat constructor) sz70 rfl rfl rfl rfl rfl (by (repeat constructor)) ?_
        intro w112 H113 hw112
        refine wl_nil ?_
        refine wc_ret ?_
        first
          | exact absurd (c0p.symm.trans g104) Bool.noConfusion
          | (have hd : readP bs = none := by
               first
                 | exact readP_bad hB (hpr.bad g104)
                 | exact readP_bad hB (hpr.bad c0p)
                 | (subst g104
                    rw [hpr.fin (by omega), dec_f (fun h => by have := congrArg List.length h.1; simp only [List.length_nil] at this; omega)]
                    rfl)
                 | (subst g104
                    rw [hpr.fin (by omega), dec_f (fun h => of_ndec c3p h.2)]
                    rfl)
             obtain ⟨d1, d2⟩ := rd_none hd
             rw [d1, d2]
             exact ⟨_, resc3 rfl rfl (run_loadVarN agg25 rfl (H113.ats (by repeat constructor))) rfl (run_loadVarN agg70 rfl (H113.ats (by repeat constructor))), _, _, rfl, ((H113.rrNil fMv 38 48).rrNil (fInt .i64) 39 3).pm (by repeat constructor)⟩)
          | (have hd : readP bs = some t := by
               subst g104
               rw [hpr.fin (by omega), dec_t ⟨List.eq_nil_of_length_eq_zero (by omega), of_dec c3p⟩]
               rfl
             obtain ⟨d1, d2⟩ := rd_some hd
             rw [d1, d2]
             exact ⟨_, resc3 rfl rfl (run_loadVarN agg25 rfl (H113.ats (by repeat constructor))) rfl (run_loadVarN agg70 rfl (H113.ats (by repeat constructor))), _, _, rfl, H113.pm (by repeat constructor)⟩)
    · refine wl_off rfl rfl g104 rfl ?_
      refine wl_off rfl rfl g104 rfl ?_
      refine wl_off rfl rfl g104 rfl ?_
      refine wl_off rfl rfl g104 rfl ?_
      refine wl_off rfl rfl g104 rfl ?_
      refine wl_v rfl rfl rfl (v_pick_t rfl g104 rfl) ?_
      refine wl_v rfl rfl rfl (v_move rfl) ?_
      refine wl_off rfl rfl rfl rfl ?_
      refine wl_off rfl rfl rfl rfl ?_
      refine wl_off rfl rfl rfl rfl ?_
      refine wl_v rfl rfl rfl (v_pick_t rfl rfl rfl) ?_
      refine wl_nil ?_
      refine wc_cond_t rfl ?_
      refine wc_seq ?_
      refine wc_region ?_
      refine wl_v rfl rfl rfl (v_bld ba25 rfl (by repeat constructor)) ?_
      refine wl_v rfl rfl rfl (v_bld ba70 rfl (by repeat constructor)) ?_
      refine wl_store (vs := [_, _]) H (by repeat constructor) sz25 rfl rfl rfl rfl rfl (by (repeat constructor)) ?_
      intro w114 H115 hw114
      refine wl_store (vs := [_, _]) H115 (by repeat constructor) sz70 rfl rfl rfl rfl rfl (by (repeat constructor)) ?_
      intro w116 H117 hw116
      refine wl_nil ?_
      refine wc_ret ?_
      first
        | exact absurd (c0p.symm.trans g104) Bool.noConfusion
        | (have hd : readP bs = none := by
             first
               | exact readP_bad hB (hpr.bad g104)
               | exact readP_bad hB (hpr.bad c0p)
               | (subst g104
                  rw [hpr.fin (by omega), dec_f (fun h => by have := congrArg List.length h.1; simp only [List.length_nil] at this; omega)]
                  rfl)
               | (subst g104
                  rw [hpr.fin (by omega), dec_f (fun h => of_ndec c3p h.2)]
                  rfl)
           obtain ⟨d1, d2⟩ := rd_none hd
           rw [d1, d2]
           exact ⟨_, resc3 rfl rfl (run_loadVarN agg25 rfl (H117.ats (by repeat constructor))) rfl (run_loadVarN agg70 rfl (H117.ats (by repeat constructor))), _, _, rfl, ((H117.rrNil fMv 38 48).rrNil (fInt .i64) 39 3).pm (by repeat constructor)⟩)
        | (have hd : readP bs = some t := by
             subst g104
             rw [hpr.fin (by omega), dec_t ⟨List.eq_nil_of_length_eq_zero (by omega), of_dec c3p⟩]
             rfl
           obtain ⟨d1, d2⟩ := rd_some hd
           rw [d1, d2]
           exact ⟨_, resc3 rfl rfl (run_loadVarN agg25 rfl (H117.ats (by repeat constructor))) rfl (run_loadVarN agg70 rfl (H117.ats (by repeat constructor))), _, _, rfl, H117.pm (by repeat constructor)⟩)
end Go.Proofs.Ytkpehkadammppaa.ReadW

/-! What the document's usual tells. -/
namespace Go.Proofs.Ytkpehkadammppaa.RUsualW
open Go Go.RowKit Go.Proofs.YtkpehkadammppaaFx 
theorem agg48 : Agg Try.prog 48 2 := agg_of Try.underlying48 (by kernel_rfl)
theorem ba48 : BuildAt Try.prog 48 [.int .i64 0, .int .i64 0] [(0, 1), (1, 1)] := build_at Try.underlying48 (by kernel_rfl) (by kernel_rfl)
theorem eqm48 : EqlMv Try.prog 48 := eql_mv (e := 3) Try.underlying48 (by kernel_rfl) (by kernel_rfl) Try.underlying3 rfl rfl
theorem fa48_0 : FieldAt Try.prog 48 0 0 := field_at (sz := 0) Try.underlying48 rfl (by kernel_rfl) rfl
theorem fa48_1 : FieldAt Try.prog 48 1 1 := field_at (sz := 0) Try.underlying48 rfl (by kernel_rfl) rfl
theorem mixed : Try.prog.follows .mixedOrders = true := by kernel_rfl
theorem one3 : One Try.prog 3 := one_of Try.underlying3 rfl (by kernel_rfl)
theorem sz48 : ∀ W, (sizeOf 48).run Try.prog W = .ok 2 W := size_of (by kernel_rfl)
theorem zv48 : ∀ W, (zeroValue 48).run Try.prog W = .ok (.agg #[.int .i64 0, .int .i64 0]) W := zero_of (by kernel_rfl)

set_option maxRecDepth 100000 in
theorem rusual_calls {A : Option Addr} {c : Nat} {row : List Mv} {w : World} (hr : Rd fMv.kn w A row) (hm : row.length ≤ 1099511627776) :
    Calls Try.prog 35 #[.slice A row.length c] w fun e w' => ∃ v, e = .returned v ∧ v = .agg #[.int .i64 (usualF row).d, .int .i64 (usualF row).n] ∧ Holds w [] w' := by
  refine calls_of Try.func35 rfl Try.ntmps35 rfl ?_
  have H := Holds.start w
  refine wc_seq ?_
  refine wc_region ?_
  refine wl_alloc (cs := [.int .i64 0, .int .i64 0]) H rfl zv48 rfl ?_
  intro b2 w1 hb2 H2
  refine wl_nil ?_
  refine wc_seq ?_
  refine wc_region ?_
  refine wl_v rfl rfl rfl (v_assign rfl) ?_
  refine wl_v rfl rfl rfl (v_assign rfl) ?_
  refine wl_nil ?_
  refine wc_seq ?_
  refine wc_seq ?_
  refine wc_region ?_
  refine wl_v rfl rfl rfl (v_assign rfl) ?_
  refine wl_nil ?_
  refine wc_block ?_
  refine wc_loop (σ := Nat × Int × Int) (fun s => [(0, .slice A row.length c), (2, .pointer (some ⟨b2, 0, none⟩)), (3, .int .i64 s.2.1), (4, .int .i64 s.2.2), (5, .int .i64 s.1)]) (fun s W => s.1 ≤ row.length ∧ RU row s.1 s.2.1 s.2.2 ∧ Holds w [Blk b2 48 [.int .i64 0, .int .i64 0]] W) (fun s => row.length - s.1) (0, -1, 0) (sc rfl (sc rfl (sc rfl (sc rfl (sc rfl (sn _)))))) ⟨Nat.zero_le _, .inl ⟨rfl, rfl, upto_zero⟩, H2⟩ ?_
  rintro ⟨i, best, most⟩ W0 ⟨hi, ha, H⟩
  dsimp only at hi ha H ⊢
  refine wc_seq ?_
  refine wc_seq ?_
  refine wc_region ?_
  refine wl_v rfl rfl rfl (v_move rfl) ?_
  refine wl_v rfl rfl rfl (v_move rfl) ?_
  refine wl_v rfl rfl rfl (v_len Try.underlying38 rfl) ?_
  refine wl_v rfl rfl rfl (v_lss rfl rfl) ?_
  refine wl_nil ?_
  refine wc_cond rfl (fun c0 => ?_) (fun c0 => ?_)
  · have c0p := of_decide_eq_true c0
    have hin : i < row.length := by omega
    refine wc_skip ?_
    refine wc_seq ?_
    refine wc_block ?_
    refine wc_seq ?_
    refine wc_seq ?_
    refine wc_region ?_
    refine wl_v rfl rfl rfl (v_move rfl) ?_
    refine wl_v rfl rfl rfl (v_move rfl) ?_
    refine wl_v rfl rfl rfl (v_idx Try.underlying38 sz48 hr.ad rfl rfl (by omega) (by omega)) ?_
    refine wl_v rfl rfl rfl (v_fp fa48_0 rfl) ?_
    refine wl_v rfl rfl rfl (v_load one3 rfl (H.cell (hr.atN (i := i) (k := 0) mv0 (by omega) rfl))) ?_
    refine wl_v rfl rfl rfl (v_neq rfl rfl) ?_
    refine wl_nil ?_
    refine wc_cond rfl (fun c1 => ?_) (fun c1 => ?_)
    · have c1p := of_nd_t c1
      refine wc_exit ?_
      refine wc_region ?_
      refine wl_v rfl rfl rfl (v_move rfl) ?_
      refine wl_v rfl rfl rfl (v_addi rfl rfl (by omega)) ?_
      refine wl_v rfl rfl rfl (v_assign rfl) ?_
      refine wl_nil ?_
      first
        | exact ⟨(i + 1, best, most), (sc rfl (sc rfl (sc rfl (sc rfl (sc rfl (sn _)))))), ⟨by dsimp only; omega, ha.skip c1p, H⟩, by dsimp only; omega⟩
        | exact ⟨(i + 1, _, _), (sc rfl (sc rfl (sc rfl (sc rfl (sc rfl (sn _)))))), ⟨by dsimp only; omega, ha.take hin c1p (by omega), H⟩, by dsimp only; omega⟩
        | exact ⟨(i + 1, best, most), (sc rfl (sc rfl (sc rfl (sc rfl (sc rfl (sn _)))))), ⟨by dsimp only; omega, ha.keep hin c1p (by omega), H⟩, by dsimp only; omega⟩
    · have c1p := of_nd_f c1
      refine wc_skip ?_
      refine wc_seq ?_
      refine wc_region ?_
      refine wl_v rfl rfl rfl (v_assign rfl) ?_
      refine wl_nil ?_
      refine wc_seq ?_
      refine wc_seq ?_
      refine wc_region ?_
      refine wl_v rfl rfl rfl (v_assign rfl) ?_
      refine wl_nil ?_
      refine wc_block ?_
      refine wc_loop (σ := Nat) (fun s => [(0, .slice A row.length c), (2, .pointer (some ⟨b2, 0, none⟩)), (3, .int .i64 best), (4, .int .i64 most), (5, .int .i64 i), (6, .int .i64 (cnt (row.take s) (row.getD i mv0).n)), (7, .int .i64 s)]) (fun s W => s ≤ row.length ∧ Holds w [Blk b2 48 [.int .i64 0, .int .i64 0]] W) (fun s => row.length - s) 0 (sc rfl (sc rfl (sc rfl (sc rfl (sc rfl (sc rfl (sc rfl (sn _)))))))) ⟨Nat.zero_le _, H⟩ ?_
      rintro s W1 ⟨hs, H⟩
      refine wc_seq ?_
      refine wc_seq ?_
      refine wc_region ?_
      refine wl_v rfl rfl rfl (v_move rfl) ?_
      refine wl_v rfl rfl rfl (v_move rfl) ?_
      refine wl_v rfl rfl rfl (v_len Try.underlying38 rfl) ?_
      refine wl_v rfl rfl rfl (v_lss rfl rfl) ?_
      refine wl_nil ?_
      refine wc_cond rfl (fun c2 => ?_) (fun c2 => ?_)
      · have c2p := of_decide_eq_true c2
        have hcl := Nat.le_trans (cnt_le (row.take s) (row.getD i mv0).n) (List.length_take_le _ _)
        refine wc_skip ?_
        refine wc_seq ?_
        refine wc_block ?_
        refine wc_seq ?_
        refine wc_still mixed (by kernel_rfl) ?_
        have Hd := H.drew
        refine ws_v rfl rfl rfl (v_move rfl) ?_
        refine ws_v rfl rfl rfl (v_move rfl) ?_
        refine ws_v rfl rfl rfl (v_idx Try.underlying38 sz48 hr.ad rfl rfl (by omega) (by omega)) ?_
        refine ws_v rfl rfl rfl (v_loadN (cs := fMv.enc _) agg48 rfl rfl (fun k u hu => Hd.cell (hr.atN (i := s) (k := k) mv0 (by omega) hu))) ?_
        refine ws_v rfl rfl rfl (v_move rfl) ?_
        refine ws_v rfl rfl rfl (v_move rfl) ?_
        refine ws_v rfl rfl rfl (v_idx Try.underlying38 sz48 hr.ad rfl rfl (by omega) (by omega)) ?_
        refine ws_v rfl rfl rfl (v_loadN (cs := fMv.enc _) agg48 rfl rfl (fun k u hu => Hd.cell (hr.atN (i := i) (k := k) mv0 (by omega) hu))) ?_
        refine ws_v rfl rfl rfl (v_eqlm  eqm48 rfl rfl) ?_
        refine ws_nil ?_
        refine wc_cond rfl (fun c3 => ?_) (fun c3 => ?_)
        · have c3p := of_decide_eq_true c3
          refine wc_region ?_
          refine wl_v rfl rfl rfl (v_move rfl) ?_
          refine wl_v rfl rfl rfl (v_addi rfl rfl (by omega)) ?_
          refine wl_v rfl rfl rfl (v_assign rfl) ?_
          refine wl_nil ?_
          refine wc_region ?_
          refine wl_v rfl rfl rfl (v_move rfl) ?_
          refine wl_v rfl rfl rfl (v_addi rfl rfl (by omega)) ?_
          refine wl_v rfl rfl rfl (v_assign rfl) ?_
          refine wl_nil ?_
          first
            | exact ⟨s + 1, (by rw [cnt_hit (by omega) c3p c1p]; exact (sc rfl (sc rfl (sc rfl (sc rfl (sc rfl (sc rfl (sc rfl (sn _))))))))), ⟨by omega, Hd⟩, by omega⟩
            | exact ⟨s + 1, (by rw [cnt_miss (by omega) c3p c1p]; exact (sc rfl (sc rfl (sc rfl (sc rfl (sc rfl (sc rfl (sc rfl (sn _))))))))), ⟨by omega, Hd⟩, by omega⟩
        · have c3p := of_decide_eq_false c3
          refine wc_skip ?_
          refine wc_region ?_
          refine wl_v rfl rfl rfl (v_move rfl) ?_
          refine wl_v rfl rfl rfl (v_addi rfl rfl (by omega)) ?_
          refine wl_v rfl rfl rfl (v_assign rfl) ?_
          refine wl_nil ?_
          first
            | exact ⟨s + 1, (by rw [cnt_hit (by omega) c3p c1p]; exact (sc rfl (sc rfl (sc rfl (sc rfl (sc rfl (sc rfl (sc rfl (sn _))))))))), ⟨by omega, Hd⟩, by omega⟩
            | exact ⟨s + 1, (by rw [cnt_miss (by omega) c3p c1p]; exact (sc rfl (sc rfl (sc rfl (sc rfl (sc rfl (sc rfl (sc rfl (sn _))))))))), ⟨by omega, Hd⟩, by omega⟩
      · have c2p := of_decide_eq_false c2
        rw [take_all c2p] at *
        refine wc_exit ?_
        refine wc_seq ?_
        refine wc_region ?_
        refine wl_v rfl rfl rfl (v_move rfl) ?_
        refine wl_v rfl rfl rfl (v_move rfl) ?_
        refine wl_v rfl rfl rfl (v_gtr rfl rfl) ?_
        refine wl_v rfl rfl rfl (v_move rfl) ?_
        refine wl_guard rfl rfl rfl (fun g40 => ?_) (fun g40 => ?_)
        · have g40p := of_decide_eq_false g40
          refine wl_v rfl rfl rfl (v_move rfl) ?_
          refine wl_on' rfl rfl g40 ?_
          refine wl_v rfl rfl rfl (v_move rfl) ?_
          refine wl_on' rfl rfl g40 ?_
          refine wl_v rfl rfl rfl (v_eql rfl rfl) ?_
          refine wl_on' rfl rfl g40 ?_
          refine wl_v rfl rfl rfl (v_move rfl) ?_
          refine wl_guard rfl rfl rfl (fun g44 => ?_) (fun g44 => ?_)
          · have g44p := of_decide_eq_true g44
            refine wl_v rfl rfl rfl (v_move rfl) ?_
            refine wl_on' rfl rfl g44 ?_
            refine wl_v rfl rfl rfl (v_move rfl) ?_
            refine wl_on' rfl rfl g44 ?_
            refine wl_v rfl rfl rfl (v_idx Try.underlying38 sz48 hr.ad rfl rfl (by omega) (by omega)) ?_
            refine wl_on' rfl rfl g44 ?_
            refine wl_v rfl rfl rfl (v_fp fa48_1 rfl) ?_
            refine wl_on' rfl rfl g44 ?_
            refine wl_v rfl rfl rfl (v_load one3 rfl (H.cell (hr.atN (i := i) (k := 1) mv0 (by omega) rfl))) ?_
            refine wl_on' rfl rfl g44 ?_
            refine wl_v rfl rfl rfl (v_move rfl) ?_
            refine wl_on' rfl rfl g44 ?_
            refine wl_v rfl rfl rfl (v_lss rfl rfl) ?_
            refine wl_on' rfl rfl g40 ?_
            refine wl_v rfl rfl rfl (v_pick_t rfl g44 rfl) ?_
            refine wl_v rfl rfl rfl (v_pick_f rfl g40 rfl) ?_
            refine wl_nil ?_
            refine wc_cond rfl (fun c4 => ?_) (fun c4 => ?_)
            · have c4p := of_decide_eq_true c4
              refine wc_region ?_
              refine wl_v rfl rfl rfl (v_move rfl) ?_
              refine wl_v rfl rfl rfl (v_move rfl) ?_
              refine wl_v rfl rfl rfl (v_idx Try.underlying38 sz48 hr.ad rfl rfl (by omega) (by omega)) ?_
              refine wl_v rfl rfl rfl (v_fp fa48_1 rfl) ?_
              refine wl_v rfl rfl rfl (v_load one3 rfl (H.cell (hr.atN (i := i) (k := 1) mv0 (by omega) rfl))) ?_
              refine wl_v rfl rfl rfl (v_move rfl) ?_
              refine wl_v rfl rfl rfl (v_assign rfl) ?_
              refine wl_v rfl rfl rfl (v_assign rfl) ?_
              refine wl_nil ?_
              refine wc_region ?_
              refine wl_v rfl rfl rfl (v_move rfl) ?_
              refine wl_v rfl rfl rfl (v_addi rfl rfl (by omega)) ?_
              refine wl_v rfl rfl rfl (v_assign rfl) ?_
              refine wl_nil ?_
              first
                | exact ⟨(i + 1, best, most), (sc rfl (sc rfl (sc rfl (sc rfl (sc rfl (sn _)))))), ⟨by dsimp only; omega, ha.skip c1p, H⟩, by dsimp only; omega⟩
                | exact ⟨(i + 1, _, _), (sc rfl (sc rfl (sc rfl (sc rfl (sc rfl (sn _)))))), ⟨by dsimp only; omega, ha.take hin c1p (by omega), H⟩, by dsimp only; omega⟩
                | exact ⟨(i + 1, best, most), (sc rfl (sc rfl (sc rfl (sc rfl (sc rfl (sn _)))))), ⟨by dsimp only; omega, ha.keep hin c1p (by omega), H⟩, by dsimp only; omega⟩
            · have c4p := of_decide_eq_false c4
              refine wc_skip ?_
              refine wc_region ?_
              refine wl_v rfl rfl rfl (v_move rfl) ?_
              refine wl_v rfl rfl rfl (v_addi rfl rfl (by omega)) ?_
              refine wl_v rfl rfl rfl (v_assign rfl) ?_
              refine wl_nil ?_
              first
                | exact ⟨(i + 1, best, most), (sc rfl (sc rfl (sc rfl (sc rfl (sc rfl (sn _)))))), ⟨by dsimp only; omega, ha.skip c1p, H⟩, by dsimp only; omega⟩
                | exact ⟨(i + 1, _, _), (sc rfl (sc rfl (sc rfl (sc rfl (sc rfl (sn _)))))), ⟨by dsimp only; omega, ha.take hin c1p (by omega), H⟩, by dsimp only; omega⟩
                | exact ⟨(i + 1, best, most), (sc rfl (sc rfl (sc rfl (sc rfl (sc rfl (sn _)))))), ⟨by dsimp only; omega, ha.keep hin c1p (by omega), H⟩, by dsimp only; omega⟩
          · have g44p := of_decide_eq_false g44
            refine wl_off rfl rfl g44 rfl ?_
            refine wl_off rfl rfl g44 rfl ?_
            refine wl_off rfl rfl g44 rfl ?_
            refine wl_off rfl rfl g44 rfl ?_
            refine wl_off rfl rfl g44 rfl ?_
            refine wl_off rfl rfl g44 rfl ?_
            refine wl_on' rfl rfl g40 ?_
            refine wl_v rfl rfl rfl (v_pick_f rfl g44 rfl) ?_
            refine wl_v rfl rfl rfl (v_pick_f rfl g40 rfl) ?_
            refine wl_nil ?_
            refine wc_cond_f rfl ?_
            refine wc_skip ?_
            refine wc_region ?_
            refine wl_v rfl rfl rfl (v_move rfl) ?_
            refine wl_v rfl rfl rfl (v_addi rfl rfl (by omega)) ?_
            refine wl_v rfl rfl rfl (v_assign rfl) ?_
            refine wl_nil ?_
            first
              | exact ⟨(i + 1, best, most), (sc rfl (sc rfl (sc rfl (sc rfl (sc rfl (sn _)))))), ⟨by dsimp only; omega, ha.skip c1p, H⟩, by dsimp only; omega⟩
              | exact ⟨(i + 1, _, _), (sc rfl (sc rfl (sc rfl (sc rfl (sc rfl (sn _)))))), ⟨by dsimp only; omega, ha.take hin c1p (by omega), H⟩, by dsimp only; omega⟩
              | exact ⟨(i + 1, best, most), (sc rfl (sc rfl (sc rfl (sc rfl (sc rfl (sn _)))))), ⟨by dsimp only; omega, ha.keep hin c1p (by omega), H⟩, by dsimp only; omega⟩
        · have g40p := of_decide_eq_true g40
          refine wl_off rfl rfl g40 rfl ?_
          refine wl_off rfl rfl g40 rfl ?_
          refine wl_off rfl rfl g40 rfl ?_
          refine wl_offu rfl rfl rfl ?_
          refine wl_offu rfl rfl rfl ?_
          refine wl_offu rfl rfl rfl ?_
          refine wl_offu rfl rfl rfl ?_
          refine wl_offu rfl rfl rfl ?_
          refine wl_offu rfl rfl rfl ?_
          refine wl_offu rfl rfl rfl ?_
          refine wl_off rfl rfl g40 rfl ?_
          refine wl_v rfl rfl rfl (v_pick_t rfl g40 rfl) ?_
          refine wl_nil ?_
          refine wc_cond_t rfl ?_
          refine wc_region ?_
          refine wl_v rfl rfl rfl (v_move rfl) ?_
          refine wl_v rfl rfl rfl (v_move rfl) ?_
          refine wl_v rfl rfl rfl (v_idx Try.underlying38 sz48 hr.ad rfl rfl (by omega) (by omega)) ?_
          refine wl_v rfl rfl rfl (v_fp fa48_1 rfl) ?_
          refine wl_v rfl rfl rfl (v_load one3 rfl (H.cell (hr.atN (i := i) (k := 1) mv0 (by omega) rfl))) ?_
          refine wl_v rfl rfl rfl (v_move rfl) ?_
          refine wl_v rfl rfl rfl (v_assign rfl) ?_
          refine wl_v rfl rfl rfl (v_assign rfl) ?_
          refine wl_nil ?_
          refine wc_region ?_
          refine wl_v rfl rfl rfl (v_move rfl) ?_
          refine wl_v rfl rfl rfl (v_addi rfl rfl (by omega)) ?_
          refine wl_v rfl rfl rfl (v_assign rfl) ?_
          refine wl_nil ?_
          first
            | exact ⟨(i + 1, best, most), (sc rfl (sc rfl (sc rfl (sc rfl (sc rfl (sn _)))))), ⟨by dsimp only; omega, ha.skip c1p, H⟩, by dsimp only; omega⟩
            | exact ⟨(i + 1, _, _), (sc rfl (sc rfl (sc rfl (sc rfl (sc rfl (sn _)))))), ⟨by dsimp only; omega, ha.take hin c1p (by omega), H⟩, by dsimp only; omega⟩
            | exact ⟨(i + 1, best, most), (sc rfl (sc rfl (sc rfl (sc rfl (sc rfl (sn _)))))), ⟨by dsimp only; omega, ha.keep hin c1p (by omega), H⟩, by dsimp only; omega⟩
  · have c0p := of_decide_eq_false c0
    refine wc_exit ?_
    refine wc_seq ?_
    refine wc_seq ?_
    refine wc_region ?_
    refine wl_v rfl rfl rfl (v_move rfl) ?_
    refine wl_v rfl rfl rfl (v_lss rfl rfl) ?_
    refine wl_v rfl rfl rfl (v_move rfl) ?_
    refine wl_guard rfl rfl rfl (fun g62 => ?_) (fun g62 => ?_)
    · have g62p := of_decide_eq_true g62
      refine wl_v rfl rfl rfl (v_move rfl) ?_
      refine wl_on' rfl rfl g62 ?_
      refine wl_v rfl rfl rfl (v_eql rfl rfl) ?_
      refine wl_v rfl rfl rfl (v_pick_t rfl g62 rfl) ?_
      refine wl_nil ?_
      refine wc_cond rfl (fun c5 => ?_) (fun c5 => ?_)
      · have c5p := of_decide_eq_true c5
        refine wc_seq ?_
        refine wc_region ?_
        refine wl_v rfl rfl rfl (v_bld ba48 rfl (by repeat constructor)) ?_
        refine wl_store (vs := [_, _]) H (by repeat constructor) sz48 rfl rfl rfl rfl rfl (by repeat constructor) ?_
        intro w3 H4 hw3
        refine wl_nil ?_
        refine wc_ret ?_
        first
          | exact ⟨_, resc rfl rfl (run_loadVarN agg48 rfl (H4.ats (by repeat constructor))), by rw [(ha.fin c0p).1 (by omega)]; rfl, H4.tail⟩
          | exact ⟨_, resc rfl rfl (run_loadVarN agg48 rfl (H4.ats (by repeat constructor))), by rw [(ha.fin c0p).2 (by omega)], H4.tail⟩
      · have c5p := of_decide_eq_false c5
        refine wc_skip ?_
        refine wc_seq ?_
        refine wc_region ?_
        refine wl_v rfl rfl rfl (v_move rfl) ?_
        refine wl_v rfl rfl rfl (v_bld ba48 rfl (by repeat constructor)) ?_
        refine wl_store (vs := [_, _]) H (by repeat constructor) sz48 rfl rfl rfl rfl rfl (by repeat constructor) ?_
        intro w5 H6 hw5
        refine wl_nil ?_
        refine wc_ret ?_
        first
          | exact ⟨_, resc rfl rfl (run_loadVarN agg48 rfl (H6.ats (by repeat constructor))), by rw [(ha.fin c0p).1 (by omega)]; rfl, H6.tail⟩
          | exact ⟨_, resc rfl rfl (run_loadVarN agg48 rfl (H6.ats (by repeat constructor))), by rw [(ha.fin c0p).2 (by omega)], H6.tail⟩
    · have g62p := of_decide_eq_false g62
      refine wl_off rfl rfl g62 rfl ?_
      refine wl_v rfl rfl rfl (v_pick_f rfl g62 rfl) ?_
      refine wl_nil ?_
      refine wc_cond_f rfl ?_
      refine wc_skip ?_
      refine wc_seq ?_
      refine wc_region ?_
      refine wl_v rfl rfl rfl (v_move rfl) ?_
      refine wl_v rfl rfl rfl (v_bld ba48 rfl (by repeat constructor)) ?_
      refine wl_store (vs := [_, _]) H (by repeat constructor) sz48 rfl rfl rfl rfl rfl (by repeat constructor) ?_
      intro w7 H8 hw7
      refine wl_nil ?_
      refine wc_ret ?_
      first
        | exact ⟨_, resc rfl rfl (run_loadVarN agg48 rfl (H8.ats (by repeat constructor))), by rw [(ha.fin c0p).1 (by omega)]; rfl, H8.tail⟩
        | exact ⟨_, resc rfl rfl (run_loadVarN agg48 rfl (H8.ats (by repeat constructor))), by rw [(ha.fin c0p).2 (by omega)], H8.tail⟩
end Go.Proofs.Ytkpehkadammppaa.RUsualW
