/- One number read. -/
import Derived.Test.YtkpehkadammppaaProg
import Derived.Test.YtkpehkadammppaaParse
set_option linter.unusedVariables false
set_option linter.unusedSimpArgs false
namespace Go.Proofs.Ytkpehkadammppaa.NumW
open Go Go.RowKit Go.Proofs.YtkpehkadammppaaFx 
theorem fa112_0 : FieldAt Try.prog 112 0 0 := field_at (sz := 0) Try.underlying112 rfl (by kernel_rfl) rfl
theorem fa112_1 : FieldAt Try.prog 112 1 1 := field_at (sz := 0) Try.underlying112 rfl (by kernel_rfl) rfl
theorem fa115_0 : FieldAt Try.prog 115 0 0 := field_at (sz := 0) Try.underlying115 rfl (by kernel_rfl) rfl
theorem fa115_1 : FieldAt Try.prog 115 1 1 := field_at (sz := 0) Try.underlying115 rfl (by kernel_rfl) rfl
theorem fa115_2 : FieldAt Try.prog 115 2 2 := field_at (sz := 0) Try.underlying115 rfl (by kernel_rfl) rfl
theorem one3 : One Try.prog 3 := one_of Try.underlying3 rfl (by kernel_rfl)
theorem one4 : One Try.prog 4 := one_of Try.underlying4 rfl (by kernel_rfl)
theorem one5 : One Try.prog 5 := one_of Try.underlying5 rfl (by kernel_rfl)
theorem one64 : One Try.prog 64 := one_of Try.underlying64 rfl (by kernel_rfl)
theorem sz3 : ∀ W, (sizeOf 3).run Try.prog W = .ok 1 W := size_of (by kernel_rfl)
theorem sz4 : ∀ W, (sizeOf 4).run Try.prog W = .ok 1 W := size_of (by kernel_rfl)
theorem sz5 : ∀ W, (sizeOf 5).run Try.prog W = .ok 1 W := size_of (by kernel_rfl)
theorem sz64 : ∀ W, (sizeOf 64).run Try.prog W = .ok 1 W := size_of (by kernel_rfl)

set_option maxRecDepth 100000 in
theorem number_calls {A : Option Addr} {b c : Nat} {bs : List Int} {bad : Bool} {w0 w : World} {LL : List Value → List Ch} (UU : ∀ x y, Upd (LL x) (Blk b 112 x) (Blk b 112 y) (LL y)) (hr : Rd (kInt .u8) w0 A bs) (hB : Bytes bs) (hl : bs.length ≤ 1099511627776) (hcap : bs.length ≤ c) (HH : Holds w0 (LL [.slice A bs.length c, .bool bad]) w) :
    Calls Try.prog 54 #[.pointer (some ⟨b, 0, none⟩)] w fun e w' => ∃ r, e = .returned r ∧ ∃ A' c', r = .int .i64 (numS bs bad).1 ∧ (numS bs bad).2.1.length ≤ c' ∧ Rd (kInt .u8) w0 A' (numS bs bad).2.1 ∧ Holds w0 (LL [.slice A' (numS bs bad).2.1.length c', .bool (numS bs bad).2.2]) w' := by
  refine calls_of Try.func54 rfl Try.ntmps54 rfl ?_
  have H := HH
  refine wc_seq ?_
  refine wc_region ?_
  refine wl_v rfl rfl rfl (v_assign rfl) ?_
  refine wl_nil ?_
  refine wc_seq ?_
  refine wc_region ?_
  refine wl_v rfl rfl rfl (v_assign rfl) ?_
  refine wl_nil ?_
  refine wc_seq ?_
  refine wc_seq ?_
  refine wc_region ?_
  refine wl_v rfl rfl rfl (v_assign rfl) ?_
  refine wl_nil ?_
  refine wc_block ?_
  refine wc_loop (σ := Nat × Nat) (fun s => [(0, .pointer (some ⟨b, 0, none⟩)), (3, .int .i64 s.2), (4, .int .i64 s.1)]) (fun s W => (s.1 ≤ 5 ∧ s.1 ≤ bs.length ∧ s.2 < 2 ^ (7 * s.1) ∧ num bs = numG (5 - s.1) s.2 (7 * s.1) (bs.drop s.1)) ∧ Holds w0 (LL [.slice A bs.length c, .bool bad]) W) (fun s => 5 - s.1) (0, 0) (sc rfl (sc rfl (sc rfl (sn _)))) ⟨⟨by dsimp only; omega, Nat.zero_le _, by decide, rfl⟩, H⟩ ?_
  rintro ⟨i, acc⟩ W0 ⟨⟨hi, hil, ha, he⟩, H⟩
  dsimp only at hi hil ha he H ⊢
  refine wc_seq ?_
  refine wc_seq ?_
  refine wc_region ?_
  refine wl_v rfl rfl rfl (v_move rfl) ?_
  refine wl_v rfl rfl rfl (v_move rfl) ?_
  refine wl_v rfl rfl rfl (v_nil rfl) ?_
  refine wl_v rfl rfl rfl (v_fb (o2 := 0) fa112_0 rfl rfl) ?_
  refine wl_v rfl rfl rfl (v_load one64 rfl (H.at (UU _ _) rfl)) ?_
  refine wl_v rfl rfl rfl (v_len Try.underlying64 rfl) ?_
  refine wl_v rfl rfl rfl (v_lss rfl rfl) ?_
  refine wl_v rfl rfl rfl (v_move rfl) ?_
  refine wl_guard rfl rfl rfl (fun g13 => ?_) (fun g13 => ?_)
  · have g13p := of_decide_eq_true g13
    refine wl_v rfl rfl rfl (v_move rfl) ?_
    refine wl_on' rfl rfl g13 ?_
    refine wl_v rfl rfl rfl (v_lss rfl rfl) ?_
    refine wl_v rfl rfl rfl (v_pick_t rfl g13 rfl) ?_
    refine wl_nil ?_
    refine wc_cond rfl (fun c0 => ?_) (fun c0 => ?_)
    · have c0p := of_decide_eq_true c0
      have hc := hB _ (getD_mem (z := 0) (show i < bs.length by omega))
      have hpw : ((bs.getD i 0).toNat % 128) * 2 ^ (7 * i) < 2 ^ 62 := by
        rcases (by omega : i = 0 ∨ i = 1 ∨ i = 2 ∨ i = 3 ∨ i = 4) with rfl | rfl | rfl | rfl | rfl <;> simp only [Nat.reducePow, Nat.reduceMul] <;> omega
      have hap : acc < 2 ^ 62 := by
        rcases (by omega : i = 0 ∨ i = 1 ∨ i = 2 ∨ i = 3 ∨ i = 4) with rfl | rfl | rfl | rfl | rfl <;> simp only [Nat.reducePow, Nat.reduceMul] at ha ⊢ <;> omega
      have hnew : (acc + ((bs.getD i 0).toNat % 128) * 2 ^ (7 * i)) < 2 ^ (7 * (i + 1)) := by
        rcases (by omega : i = 0 ∨ i = 1 ∨ i = 2 ∨ i = 3 ∨ i = 4) with rfl | rfl | rfl | rfl | rfl <;> simp only [Nat.reducePow, Nat.reduceMul, Nat.reduceAdd] at ha ⊢ <;> omega
      have e1 : bits .and .u8 (bs.getD i 0) 127 = ((((bs.getD i 0).toNat % 128) : Nat) : Int) := by rw [and127 hc]; omega
      have e2 : IntKind.i64.wrap ((((bs.getD i 0).toNat % 128) : Nat) : Int) = ((((bs.getD i 0).toNat % 128) : Nat) : Int) := IntWalk.i64_in _ (by omega)
      have e3 : IntKind.i64.wrap (7 * (i : Int)) = ((7 * i : Nat) : Int) := by rw [IntWalk.i64_in _ (by omega)]; omega
      have e4 : IntKind.i64.wrap (((((bs.getD i 0).toNat % 128) : Nat) : Int) * 2 ^ ((7 * i : Nat) : Int).toNat) = ((((bs.getD i 0).toNat % 128) * 2 ^ (7 * i) : Nat) : Int) := by
        rw [Int.toNat_natCast, show ((((bs.getD i 0).toNat % 128) : Nat) : Int) * 2 ^ (7 * i) = ((((bs.getD i 0).toNat % 128) * 2 ^ (7 * i) : Nat) : Int) by simp]
        exact IntWalk.i64_in _ (by omega)
      have e5 := or_low ha hpw hap
      obtain ⟨kk, hkk⟩ : ∃ kk, 5 - i = kk + 1 := ⟨4 - i, by omega⟩
      have hst := numG_step (k := kk) (acc := acc) (sh := 7 * i) (show i < bs.length by omega)
      rw [hkk] at he
      rw [← he] at hst
      refine wc_skip ?_
      refine wc_seq ?_
      refine wc_block ?_
      refine wc_seq ?_
      refine wc_region ?_
      refine wl_v rfl rfl rfl (v_move rfl) ?_
      refine wl_v rfl rfl rfl (v_nil rfl) ?_
      refine wl_v rfl rfl rfl (v_fb (o2 := 0) fa112_0 rfl rfl) ?_
      refine wl_v rfl rfl rfl (v_load one64 rfl (H.at (UU _ _) rfl)) ?_
      refine wl_v rfl rfl rfl (v_move rfl) ?_
      refine wl_v rfl rfl rfl (v_idx Try.underlying64 sz5 hr.ad rfl rfl (by omega) (by omega)) ?_
      refine wl_v rfl rfl rfl (v_load one5 rfl (H.cell (hr.at1N (i := i) (by omega)))) ?_
      refine wl_v rfl rfl rfl (v_assign rfl) ?_
      refine wl_nil ?_
      refine wc_seq ?_
      refine wc_region ?_
      refine wl_v rfl rfl rfl (v_move rfl) ?_
      refine wl_v rfl rfl rfl (v_move rfl) ?_
      refine wl_v rfl rfl rfl (v_and rfl rfl) ?_
      rw [e1]
      refine wl_v rfl rfl rfl (v_conv Try.underlying5 Try.underlying3 rfl) ?_
      rw [e2]
      refine wl_v rfl rfl rfl (v_move rfl) ?_
      refine wl_v rfl rfl rfl (v_mul rfl rfl) ?_
      rw [e3]
      refine wl_v rfl rfl rfl (v_shl rfl rfl (by omega) (by simp only [IntKind.bits]; omega)) ?_
      rw [e4]
      refine wl_v rfl rfl rfl (v_or rfl rfl) ?_
      rw [e5]
      refine wl_v rfl rfl rfl (v_assign rfl) ?_
      refine wl_nil ?_
      refine wc_seq ?_
      refine wc_region ?_
      refine wl_v rfl rfl rfl (v_move rfl) ?_
      refine wl_v rfl rfl rfl (v_lss rfl rfl) ?_
      refine wl_nil ?_
      refine wc_cond rfl (fun c1 => ?_) (fun c1 => ?_)
      · have c1p := of_decide_eq_true c1
        refine wc_seq ?_
        refine wc_seq ?_
        refine wc_region ?_
        refine wl_v rfl rfl rfl (v_move rfl) ?_
        refine wl_v rfl rfl rfl (v_eql rfl rfl) ?_
        refine wl_v rfl rfl rfl (v_move rfl) ?_
        refine wl_guard rfl rfl rfl (fun g38 => ?_) (fun g38 => ?_)
        · have g38p := of_decide_eq_true g38
          refine wl_v rfl rfl rfl (v_move rfl) ?_
          refine wl_on' rfl rfl g38 ?_
          refine wl_v rfl rfl rfl (v_gtr rfl rfl) ?_
          refine wl_v rfl rfl rfl (v_pick_t rfl g38 rfl) ?_
          refine wl_v rfl rfl rfl (v_move rfl) ?_
          refine wl_guard rfl rfl rfl (fun g42 => ?_) (fun g42 => ?_)
          · have g42p := of_decide_eq_false g42
            refine wl_v rfl rfl rfl (v_move rfl) ?_
            refine wl_on' rfl rfl g42 ?_
            refine wl_v rfl rfl rfl (v_gtr rfl rfl) ?_
            refine wl_v rfl rfl rfl (v_pick_f rfl g42 rfl) ?_
            refine wl_nil ?_
            refine wc_cond rfl (fun c2 => ?_) (fun c2 => ?_)
            · have c2p := of_decide_eq_true c2
              refine wc_exit ?_
              refine wc_seq ?_
              refine wc_region ?_
              refine wl_v rfl rfl rfl (v_move rfl) ?_
              refine wl_v rfl rfl rfl (v_nil rfl) ?_
              refine wl_v rfl rfl rfl (v_fb (o2 := 1) fa112_1 rfl rfl) ?_
              refine wl_store (vs := [_]) H (UU _ _) sz4 rfl rfl rfl rfl rfl (by (repeat constructor)) ?_
              intro w6 H7 hw6
              refine wl_nil ?_
              refine wc_seq ?_
              refine wc_region ?_
              refine wl_v rfl rfl rfl (v_assign rfl) ?_
              refine wl_nil ?_
              refine wc_ret ?_
              first
                | (have hn : num bs = some ((acc + ((bs.getD i 0).toNat % 128) * 2 ^ (7 * i)), bs.drop (i + 1)) := by rw [hst, if_pos (by omega), if_neg (by omega)]
                   have hd : (bs.drop (i + 1)).length = bs.length - ((i : Int) + 1).toNat := by rw [List.length_drop]; omega
                   have ht : ((i : Int) + 1).toNat = i + 1 := by omega
                   rw [← hd, ht] at H7
                   rw [numS_some hn]
                   exact ⟨_, res1 rfl rfl, cutA A (i + 1) c 1, c - (i + 1), rfl, by rw [List.length_drop]; omega, hr.cut (by omega) hcap, H7⟩)
                | (have hn : num bs = none := by
                     first
                       | (rw [he, show 5 - i = 0 by omega]; rfl)
                       | (rw [he, List.drop_of_length_le (by omega)]; exact numG_nil _ _ _)
                       | (rw [hst, if_pos (by omega), if_pos (by omega)])
                   rw [numS_none hn]
                   exact ⟨_, res1 rfl rfl, A, c, rfl, hcap, hr, H7⟩)
            · have c2p := of_decide_eq_false c2
              refine wc_skip ?_
              refine wc_seq ?_
              refine wc_region ?_
              refine wl_v rfl rfl rfl (v_move rfl) ?_
              refine wl_v rfl rfl rfl (v_move rfl) ?_
              refine wl_v rfl rfl rfl (v_nil rfl) ?_
              refine wl_v rfl rfl rfl (v_fb (o2 := 0) fa112_0 rfl rfl) ?_
              refine wl_v rfl rfl rfl (v_load one64 rfl (H.at (UU _ _) rfl)) ?_
              refine wl_v rfl rfl rfl (v_move rfl) ?_
              refine wl_v rfl rfl rfl (v_addi rfl rfl (by omega)) ?_
              refine wl_v rfl rfl rfl (v_cutlo Try.underlying64 sz5 rfl rfl (by omega) (by omega)) ?_
              refine wl_v rfl rfl rfl (v_nil rfl) ?_
              refine wl_v rfl rfl rfl (v_fb (o2 := 0) fa112_0 rfl rfl) ?_
              refine wl_store (vs := [_]) H (UU _ _) sz64 rfl rfl rfl rfl rfl (by (repeat constructor)) ?_
              intro w9 H10 hw9
              refine wl_nil ?_
              refine wc_seq ?_
              refine wc_region ?_
              refine wl_v rfl rfl rfl (v_move rfl) ?_
              refine wl_v rfl rfl rfl (v_assign rfl) ?_
              refine wl_nil ?_
              refine wc_ret ?_
              first
                | (have hn : num bs = some ((acc + ((bs.getD i 0).toNat % 128) * 2 ^ (7 * i)), bs.drop (i + 1)) := by rw [hst, if_pos (by omega), if_neg (by omega)]
                   have hd : (bs.drop (i + 1)).length = bs.length - ((i : Int) + 1).toNat := by rw [List.length_drop]; omega
                   have ht : ((i : Int) + 1).toNat = i + 1 := by omega
                   rw [← hd, ht] at H10
                   rw [numS_some hn]
                   exact ⟨_, res1 rfl rfl, cutA A (i + 1) c 1, c - (i + 1), rfl, by rw [List.length_drop]; omega, hr.cut (by omega) hcap, H10⟩)
                | (have hn : num bs = none := by
                     first
                       | (rw [he, show 5 - i = 0 by omega]; rfl)
                       | (rw [he, List.drop_of_length_le (by omega)]; exact numG_nil _ _ _)
                       | (rw [hst, if_pos (by omega), if_pos (by omega)])
                   rw [numS_none hn]
                   exact ⟨_, res1 rfl rfl, A, c, rfl, hcap, hr, H10⟩)
          · have g42p := of_decide_eq_true g42
            refine wl_off rfl rfl g42 rfl ?_
            refine wl_v rfl rfl rfl (v_pick_t rfl g42 rfl) ?_
            refine wl_nil ?_
            refine wc_cond_t rfl ?_
            refine wc_exit ?_
            refine wc_seq ?_
            refine wc_region ?_
            refine wl_v rfl rfl rfl (v_move rfl) ?_
            refine wl_v rfl rfl rfl (v_nil rfl) ?_
            refine wl_v rfl rfl rfl (v_fb (o2 := 1) fa112_1 rfl rfl) ?_
            refine wl_store (vs := [_]) H (UU _ _) sz4 rfl rfl rfl rfl rfl (by (repeat constructor)) ?_
            intro w11 H12 hw11
            refine wl_nil ?_
            refine wc_seq ?_
            refine wc_region ?_
            refine wl_v rfl rfl rfl (v_assign rfl) ?_
            refine wl_nil ?_
            refine wc_ret ?_
            first
              | (have hn : num bs = some ((acc + ((bs.getD i 0).toNat % 128) * 2 ^ (7 * i)), bs.drop (i + 1)) := by rw [hst, if_pos (by omega), if_neg (by omega)]
                 have hd : (bs.drop (i + 1)).length = bs.length - ((i : Int) + 1).toNat := by rw [List.length_drop]; omega
                 have ht : ((i : Int) + 1).toNat = i + 1 := by omega
                 rw [← hd, ht] at H12
                 rw [numS_some hn]
                 exact ⟨_, res1 rfl rfl, cutA A (i + 1) c 1, c - (i + 1), rfl, by rw [List.length_drop]; omega, hr.cut (by omega) hcap, H12⟩)
              | (have hn : num bs = none := by
                   first
                     | (rw [he, show 5 - i = 0 by omega]; rfl)
                     | (rw [he, List.drop_of_length_le (by omega)]; exact numG_nil _ _ _)
                     | (rw [hst, if_pos (by omega), if_pos (by omega)])
                 rw [numS_none hn]
                 exact ⟨_, res1 rfl rfl, A, c, rfl, hcap, hr, H12⟩)
        · have g38p := of_decide_eq_false g38
          refine wl_off rfl rfl g38 rfl ?_
          refine wl_v rfl rfl rfl (v_pick_f rfl g38 rfl) ?_
          refine wl_v rfl rfl rfl (v_move rfl) ?_
          refine wl_on' rfl rfl rfl ?_
          refine wl_v rfl rfl rfl (v_move rfl) ?_
          refine wl_on' rfl rfl rfl ?_
          refine wl_v rfl rfl rfl (v_gtr rfl rfl) ?_
          refine wl_v rfl rfl rfl (v_pick_f rfl rfl rfl) ?_
          refine wl_nil ?_
          refine wc_cond rfl (fun c2 => ?_) (fun c2 => ?_)
          · have c2p := of_decide_eq_true c2
            refine wc_exit ?_
            refine wc_seq ?_
            refine wc_region ?_
            refine wl_v rfl rfl rfl (v_move rfl) ?_
            refine wl_v rfl rfl rfl (v_nil rfl) ?_
            refine wl_v rfl rfl rfl (v_fb (o2 := 1) fa112_1 rfl rfl) ?_
            refine wl_store (vs := [_]) H (UU _ _) sz4 rfl rfl rfl rfl rfl (by (repeat constructor)) ?_
            intro w13 H14 hw13
            refine wl_nil ?_
            refine wc_seq ?_
            refine wc_region ?_
            refine wl_v rfl rfl rfl (v_assign rfl) ?_
            refine wl_nil ?_
            refine wc_ret ?_
            first
              | (have hn : num bs = some ((acc + ((bs.getD i 0).toNat % 128) * 2 ^ (7 * i)), bs.drop (i + 1)) := by rw [hst, if_pos (by omega), if_neg (by omega)]
                 have hd : (bs.drop (i + 1)).length = bs.length - ((i : Int) + 1).toNat := by rw [List.length_drop]; omega
                 have ht : ((i : Int) + 1).toNat = i + 1 := by omega
                 rw [← hd, ht] at H14
                 rw [numS_some hn]
                 exact ⟨_, res1 rfl rfl, cutA A (i + 1) c 1, c - (i + 1), rfl, by rw [List.length_drop]; omega, hr.cut (by omega) hcap, H14⟩)
              | (have hn : num bs = none := by
                   first
                     | (rw [he, show 5 - i = 0 by omega]; rfl)
                     | (rw [he, List.drop_of_length_le (by omega)]; exact numG_nil _ _ _)
                     | (rw [hst, if_pos (by omega), if_pos (by omega)])
                 rw [numS_none hn]
                 exact ⟨_, res1 rfl rfl, A, c, rfl, hcap, hr, H14⟩)
          · have c2p := of_decide_eq_false c2
            refine wc_skip ?_
            refine wc_seq ?_
            refine wc_region ?_
            refine wl_v rfl rfl rfl (v_move rfl) ?_
            refine wl_v rfl rfl rfl (v_move rfl) ?_
            refine wl_v rfl rfl rfl (v_nil rfl) ?_
            refine wl_v rfl rfl rfl (v_fb (o2 := 0) fa112_0 rfl rfl) ?_
            refine wl_v rfl rfl rfl (v_load one64 rfl (H.at (UU _ _) rfl)) ?_
            refine wl_v rfl rfl rfl (v_move rfl) ?_
            refine wl_v rfl rfl rfl (v_addi rfl rfl (by omega)) ?_
            refine wl_v rfl rfl rfl (v_cutlo Try.underlying64 sz5 rfl rfl (by omega) (by omega)) ?_
            refine wl_v rfl rfl rfl (v_nil rfl) ?_
            refine wl_v rfl rfl rfl (v_fb (o2 := 0) fa112_0 rfl rfl) ?_
            refine wl_store (vs := [_]) H (UU _ _) sz64 rfl rfl rfl rfl rfl (by (repeat constructor)) ?_
            intro w16 H17 hw16
            refine wl_nil ?_
            refine wc_seq ?_
            refine wc_region ?_
            refine wl_v rfl rfl rfl (v_move rfl) ?_
            refine wl_v rfl rfl rfl (v_assign rfl) ?_
            refine wl_nil ?_
            refine wc_ret ?_
            first
              | (have hn : num bs = some ((acc + ((bs.getD i 0).toNat % 128) * 2 ^ (7 * i)), bs.drop (i + 1)) := by rw [hst, if_pos (by omega), if_neg (by omega)]
                 have hd : (bs.drop (i + 1)).length = bs.length - ((i : Int) + 1).toNat := by rw [List.length_drop]; omega
                 have ht : ((i : Int) + 1).toNat = i + 1 := by omega
                 rw [← hd, ht] at H17
                 rw [numS_some hn]
                 exact ⟨_, res1 rfl rfl, cutA A (i + 1) c 1, c - (i + 1), rfl, by rw [List.length_drop]; omega, hr.cut (by omega) hcap, H17⟩)
              | (have hn : num bs = none := by
                   first
                     | (rw [he, show 5 - i = 0 by omega]; rfl)
                     | (rw [he, List.drop_of_length_le (by omega)]; exact numG_nil _ _ _)
                     | (rw [hst, if_pos (by omega), if_pos (by omega)])
                 rw [numS_none hn]
                 exact ⟨_, res1 rfl rfl, A, c, rfl, hcap, hr, H17⟩)
      · have c1p := of_decide_eq_false c1
        refine wc_skip ?_
        refine wc_region ?_
        refine wl_v rfl rfl rfl (v_move rfl) ?_
        refine wl_v rfl rfl rfl (v_addi rfl rfl (by omega)) ?_
        refine wl_v rfl rfl rfl (v_assign rfl) ?_
        refine wl_nil ?_
        exact ⟨(i + 1, (acc + ((bs.getD i 0).toNat % 128) * 2 ^ (7 * i))), (sc rfl (sc rfl (sc rfl (sn _)))), ⟨⟨by dsimp only; omega, by dsimp only; omega, hnew, by dsimp only; rw [hst, if_neg (by omega), show 5 - (i + 1) = kk by omega, show 7 * (i + 1) = 7 * i + 7 by omega]⟩, H⟩, by dsimp only; omega⟩
    · have c0p := of_decide_eq_false c0
      refine wc_exit ?_
      refine wc_seq ?_
      refine wc_region ?_
      refine wl_v rfl rfl rfl (v_move rfl) ?_
      refine wl_v rfl rfl rfl (v_nil rfl) ?_
      refine wl_v rfl rfl rfl (v_fb (o2 := 1) fa112_1 rfl rfl) ?_
      refine wl_store (vs := [_]) H (UU _ _) sz4 rfl rfl rfl rfl rfl (by (repeat constructor)) ?_
      intro w18 H19 hw18
      refine wl_nil ?_
      refine wc_seq ?_
      refine wc_region ?_
      refine wl_v rfl rfl rfl (v_assign rfl) ?_
      refine wl_nil ?_
      refine wc_ret ?_
      first
        | (have hn : num bs = some ((acc + ((bs.getD i 0).toNat % 128) * 2 ^ (7 * i)), bs.drop (i + 1)) := by rw [hst, if_pos (by omega), if_neg (by omega)]
           have hd : (bs.drop (i + 1)).length = bs.length - ((i : Int) + 1).toNat := by rw [List.length_drop]; omega
           have ht : ((i : Int) + 1).toNat = i + 1 := by omega
           rw [← hd, ht] at H19
           rw [numS_some hn]
           exact ⟨_, res1 rfl rfl, cutA A (i + 1) c 1, c - (i + 1), rfl, by rw [List.length_drop]; omega, hr.cut (by omega) hcap, H19⟩)
        | (have hn : num bs = none := by
             first
               | (rw [he, show 5 - i = 0 by omega]; rfl)
               | (rw [he, List.drop_of_length_le (by omega)]; exact numG_nil _ _ _)
               | (rw [hst, if_pos (by omega), if_pos (by omega)])
           rw [numS_none hn]
           exact ⟨_, res1 rfl rfl, A, c, rfl, hcap, hr, H19⟩)
  · have g13p := of_decide_eq_false g13
    refine wl_off rfl rfl g13 rfl ?_
    refine wl_v rfl rfl rfl (v_pick_f rfl g13 rfl) ?_
    refine wl_nil ?_
    refine wc_cond_f rfl ?_
    refine wc_exit ?_
    refine wc_seq ?_
    refine wc_region ?_
    refine wl_v rfl rfl rfl (v_move rfl) ?_
    refine wl_v rfl rfl rfl (v_nil rfl) ?_
    refine wl_v rfl rfl rfl (v_fb (o2 := 1) fa112_1 rfl rfl) ?_
    refine wl_store (vs := [_]) H (UU _ _) sz4 rfl rfl rfl rfl rfl (by (repeat constructor)) ?_
    intro w20 H21 hw20
    refine wl_nil ?_
    refine wc_seq ?_
    refine wc_region ?_
    refine wl_v rfl rfl rfl (v_assign rfl) ?_
    refine wl_nil ?_
    refine wc_ret ?_
    first
      | (have hn : num bs = some ((acc + ((bs.getD i 0).toNat % 128) * 2 ^ (7 * i)), bs.drop (i + 1)) := by rw [hst, if_pos (by omega), if_neg (by omega)]
         have hd : (bs.drop (i + 1)).length = bs.length - ((i : Int) + 1).toNat := by rw [List.length_drop]; omega
         have ht : ((i : Int) + 1).toNat = i + 1 := by omega
         rw [← hd, ht] at H21
         rw [numS_some hn]
         exact ⟨_, res1 rfl rfl, cutA A (i + 1) c 1, c - (i + 1), rfl, by rw [List.length_drop]; omega, hr.cut (by omega) hcap, H21⟩)
      | (have hn : num bs = none := by
           first
             | (rw [he, show 5 - i = 0 by omega]; rfl)
             | (rw [he, List.drop_of_length_le (by omega)]; exact numG_nil _ _ _)
             | (rw [hst, if_pos (by omega), if_pos (by omega)])
         rw [numS_none hn]
         exact ⟨_, res1 rfl rfl, A, c, rfl, hcap, hr, H21⟩)

set_option maxRecDepth 100000 in
theorem next_calls {A : Option Addr} {b c a : Nat} {bs : List Int} {bad : Bool} {w0 w : World} {LL : List Value → List Ch} (UU : ∀ x y, Upd (LL x) (Blk b 115 x) (Blk b 115 y) (LL y)) (hr : Rd (kInt .u8) w0 A bs) (hB : Bytes bs) (hl : bs.length ≤ 1099511627776) (hal : a ≤ bs.length) (HH : Holds w0 (LL [.slice A bs.length c, .int .i64 a, .bool bad]) w) :
    Calls Try.prog 55 #[.pointer (some ⟨b, 0, none⟩)] w fun e w' => ∃ r, e = .returned r ∧ r = .int .i64 (nxtS bs a bad).1 ∧ Holds w0 (LL [.slice A bs.length c, .int .i64 (nxtS bs a bad).2.1, .bool (nxtS bs a bad).2.2]) w' := by
  refine calls_of Try.func55 rfl Try.ntmps55 rfl ?_
  have H := HH
  refine wc_seq ?_
  refine wc_region ?_
  refine wl_v rfl rfl rfl (v_assign rfl) ?_
  refine wl_nil ?_
  refine wc_seq ?_
  refine wc_region ?_
  refine wl_v rfl rfl rfl (v_assign rfl) ?_
  refine wl_v rfl rfl rfl (v_assign rfl) ?_
  refine wl_nil ?_
  refine wc_seq ?_
  refine wc_seq ?_
  refine wc_region ?_
  refine wl_v rfl rfl rfl (v_move rfl) ?_
  refine wl_v rfl rfl rfl (v_nil rfl) ?_
  refine wl_v rfl rfl rfl (v_fb (o2 := 1) fa115_1 rfl rfl) ?_
  refine wl_v rfl rfl rfl (v_load one3 rfl (H.at (UU _ _) rfl)) ?_
  refine wl_v rfl rfl rfl (v_assign rfl) ?_
  refine wl_nil ?_
  refine wc_block ?_
  refine wc_loop (σ := Nat × Nat) (fun s => [(0, .pointer (some ⟨b, 0, none⟩)), (3, .int .i64 s.2), (4, .int .i64 (7 * s.1 : Nat)), (5, .int .i64 (a + s.1 : Nat))]) (fun s W => (s.1 ≤ 5 ∧ a + s.1 ≤ bs.length ∧ s.2 < 2 ^ (7 * s.1) ∧ num (bs.drop a) = numG (5 - s.1) s.2 (7 * s.1) (bs.drop (a + s.1))) ∧ Holds w0 (LL [.slice A bs.length c, .int .i64 a, .bool bad]) W) (fun s => 6 - s.1) (0, 0) (sc rfl (sc rfl (sc rfl (sc rfl (sn _))))) ⟨⟨by dsimp only; omega, hal, by decide, rfl⟩, H⟩ ?_
  rintro ⟨j, acc⟩ W0 ⟨⟨hj, hjl, ha, he⟩, H⟩
  dsimp only at hj hjl ha he H ⊢
  refine wc_seq ?_
  refine wc_seq ?_
  refine wc_region ?_
  refine wl_v rfl rfl rfl (v_move rfl) ?_
  refine wl_v rfl rfl rfl (v_move rfl) ?_
  refine wl_v rfl rfl rfl (v_nil rfl) ?_
  refine wl_v rfl rfl rfl (v_fb (o2 := 0) fa115_0 rfl rfl) ?_
  refine wl_v rfl rfl rfl (v_load one64 rfl (H.at (UU _ _) rfl)) ?_
  refine wl_v rfl rfl rfl (v_len Try.underlying64 rfl) ?_
  refine wl_v rfl rfl rfl (v_lss rfl rfl) ?_
  refine wl_v rfl rfl rfl (v_move rfl) ?_
  refine wl_guard rfl rfl rfl (fun g17 => ?_) (fun g17 => ?_)
  · have g17p := of_decide_eq_true g17
    refine wl_v rfl rfl rfl (v_move rfl) ?_
    refine wl_on' rfl rfl g17 ?_
    refine wl_v rfl rfl rfl (v_nil rfl) ?_
    refine wl_on' rfl rfl g17 ?_
    refine wl_v rfl rfl rfl (v_fb (o2 := 2) fa115_2 rfl rfl) ?_
    refine wl_on' rfl rfl g17 ?_
    refine wl_v rfl rfl rfl (v_load one4 rfl (H.at (UU _ _) rfl)) ?_
    refine wl_on' rfl rfl g17 ?_
    refine wl_v rfl rfl rfl (v_not rfl) ?_
    refine wl_v rfl rfl rfl (v_pick_t rfl g17 rfl) ?_
    refine wl_nil ?_
    refine wc_cond rfl (fun c0 => ?_) (fun c0 => ?_)
    · have c0p := of_n_t c0
      have hc := hB _ (getD_mem (z := 0) (show a + j < bs.length by omega))
      have hpw : ((bs.getD (a + j) 0).toNat % 128) * 2 ^ (7 * j) < 2 ^ 62 := by
        rcases (by omega : j = 0 ∨ j = 1 ∨ j = 2 ∨ j = 3 ∨ j = 4 ∨ j = 5) with rfl | rfl | rfl | rfl | rfl | rfl <;> simp only [Nat.reducePow, Nat.reduceMul] <;> omega
      have hap : acc < 2 ^ 36 := by
        rcases (by omega : j = 0 ∨ j = 1 ∨ j = 2 ∨ j = 3 ∨ j = 4 ∨ j = 5) with rfl | rfl | rfl | rfl | rfl | rfl <;> simp only [Nat.reducePow, Nat.reduceMul] at ha ⊢ <;> omega
      have hnew : j < 5 → (acc + ((bs.getD (a + j) 0).toNat % 128) * 2 ^ (7 * j)) < 2 ^ (7 * (j + 1)) := fun _ => by
        rcases (by omega : j = 0 ∨ j = 1 ∨ j = 2 ∨ j = 3 ∨ j = 4) with rfl | rfl | rfl | rfl | rfl <;> simp only [Nat.reducePow, Nat.reduceMul, Nat.reduceAdd] at ha ⊢ <;> omega
      have e1 : Int.tmod (bs.getD (a + j) 0) 128 = ((((bs.getD (a + j) 0).toNat % 128) : Nat) : Int) := by rw [Int.tmod_eq_emod_of_nonneg hc.1]; omega
      have e2 : IntKind.i64.wrap ((((bs.getD (a + j) 0).toNat % 128) : Nat) : Int) = ((((bs.getD (a + j) 0).toNat % 128) : Nat) : Int) := IntWalk.i64_in _ (by omega)
      have e4 : IntKind.i64.wrap (((((bs.getD (a + j) 0).toNat % 128) : Nat) : Int) * 2 ^ ((7 * j : Nat) : Int).toNat) = ((((bs.getD (a + j) 0).toNat % 128) * 2 ^ (7 * j) : Nat) : Int) := by
        rw [Int.toNat_natCast, show ((((bs.getD (a + j) 0).toNat % 128) : Nat) : Int) * 2 ^ (7 * j) = ((((bs.getD (a + j) 0).toNat % 128) * 2 ^ (7 * j) : Nat) : Int) by simp]
        exact IntWalk.i64_in _ (by omega)
      have e5 : (acc : Int) + ((((bs.getD (a + j) 0).toNat % 128) * 2 ^ (7 * j) : Nat) : Int) = (((acc + ((bs.getD (a + j) 0).toNat % 128) * 2 ^ (7 * j)) : Nat) : Int) := (Int.natCast_add _ _).symm
      have hst' : j < 5 → num (bs.drop a) = (if bs.getD (a + j) 0 < 128 then if (bs.getD (a + j) 0 = 0 ∧ 0 < 7 * j) ∨ 2147483647 < (acc + ((bs.getD (a + j) 0).toNat % 128) * 2 ^ (7 * j)) then none else some ((acc + ((bs.getD (a + j) 0).toNat % 128) * 2 ^ (7 * j)), bs.drop (a + j + 1)) else numG (4 - j) (acc + ((bs.getD (a + j) 0).toNat % 128) * 2 ^ (7 * j)) (7 * j + 7) (bs.drop (a + j + 1))) := fun hj5 => by
        have h1 := numG_step (k := 4 - j) (acc := acc) (sh := 7 * j) (show a + j < bs.length by omega)
        rw [show 4 - j + 1 = 5 - j by omega, ← he] at h1
        exact h1
      refine wc_skip ?_
      refine wc_seq ?_
      refine wc_block ?_
      refine wc_seq ?_
      refine wc_region ?_
      refine wl_v rfl rfl rfl (v_move rfl) ?_
      refine wl_v rfl rfl rfl (v_move rfl) ?_
      refine wl_v rfl rfl rfl (v_nil rfl) ?_
      refine wl_v rfl rfl rfl (v_fb (o2 := 0) fa115_0 rfl rfl) ?_
      refine wl_v rfl rfl rfl (v_load one64 rfl (H.at (UU _ _) rfl)) ?_
      refine wl_v rfl rfl rfl (v_move rfl) ?_
      refine wl_v rfl rfl rfl (v_idx Try.underlying64 sz5 hr.ad rfl rfl (by omega) (by omega)) ?_
      refine wl_v rfl rfl rfl (v_load one5 rfl (H.cell (hr.at1N (i := (a + j)) (by omega)))) ?_
      refine wl_v rfl rfl rfl (v_rem rfl rfl (by decide)) ?_
      rw [e1]
      refine wl_v rfl rfl rfl (v_conv Try.underlying5 Try.underlying3 rfl) ?_
      rw [e2]
      refine wl_v rfl rfl rfl (v_move rfl) ?_
      refine wl_v rfl rfl rfl (v_shl rfl rfl (by omega) (by simp only [IntKind.bits]; omega)) ?_
      rw [e4]
      refine wl_v rfl rfl rfl (v_addi rfl rfl (by omega)) ?_
      rw [e5]
      refine wl_v rfl rfl rfl (v_assign rfl) ?_
      refine wl_nil ?_
      refine wc_seq ?_
      refine wc_region ?_
      refine wl_v rfl rfl rfl (v_move rfl) ?_
      refine wl_v rfl rfl rfl (v_addi rfl rfl (by omega)) ?_
      refine wl_v rfl rfl rfl (v_assign rfl) ?_
      refine wl_nil ?_
      refine wc_seq ?_
      refine wc_seq ?_
      refine wc_region ?_
      refine wl_v rfl rfl rfl (v_move rfl) ?_
      refine wl_v rfl rfl rfl (v_gtr rfl rfl) ?_
      refine wl_v rfl rfl rfl (v_move rfl) ?_
      refine wl_guard rfl rfl rfl (fun g43 => ?_) (fun g43 => ?_)
      · have g43p := of_decide_eq_false g43
        refine wl_v rfl rfl rfl (v_move rfl) ?_
        refine wl_on' rfl rfl g43 ?_
        refine wl_v rfl rfl rfl (v_gtr rfl rfl) ?_
        refine wl_v rfl rfl rfl (v_pick_f rfl g43 rfl) ?_
        refine wl_nil ?_
        refine wc_cond rfl (fun c1 => ?_) (fun c1 => ?_)
        · have c1p := of_decide_eq_true c1
          refine wc_exit ?_
          refine wc_seq ?_
          refine wc_region ?_
          refine wl_v rfl rfl rfl (v_move rfl) ?_
          refine wl_v rfl rfl rfl (v_nil rfl) ?_
          refine wl_v rfl rfl rfl (v_fb (o2 := 2) fa115_2 rfl rfl) ?_
          refine wl_store (vs := [_]) H (UU _ _) sz4 rfl rfl rfl rfl rfl (by (repeat constructor)) ?_
          intro w5 H6 hw5
          refine wl_nil ?_
          refine wc_seq ?_
          refine wc_region ?_
          refine wl_v rfl rfl rfl (v_assign rfl) ?_
          refine wl_nil ?_
          refine wc_ret ?_
          first
            | (have hst := hst' (by omega)
               have hn : num (bs.drop a) = some ((acc + ((bs.getD (a + j) 0).toNat % 128) * 2 ^ (7 * j)), bs.drop (a + j + 1)) := by rw [hst, if_pos (by omega), if_neg (by omega)]
               have hd : bs.length - (bs.drop (a + j + 1)).length = a + j + 1 := by rw [List.length_drop]; omega
               subst c0p
               rw [nxtS_some hn, hd]
               exact ⟨_, res1 rfl rfl, rfl, H6⟩)
            | (have hn : nxtS bs a bad = (0, a, true) := by
                 cases bad
                 · refine nxtS_none ?_
                   first
                     | (rw [he, List.drop_of_length_le (by omega)]; exact numG_nil _ _ _)
                     | (rcases (by omega : j = 5 ∨ j < 5) with rfl | hj5
                        · rw [he]; rfl
                        · have hst := hst' hj5
                          rcases (by omega : bs.getD (a + j) 0 < 128 ∨ ¬ bs.getD (a + j) 0 < 128) with h1 | h1
                          · rw [hst, if_pos h1, if_pos (by omega)]
                          · rw [hst, if_neg h1]
                            exact numG_big _ _ _ _ (by omega))
                     | exact absurd rfl c0p
                     | exact absurd c0p (by simp)
                 · rfl
               rw [hn]
               exact ⟨_, res1 rfl rfl, rfl, H6⟩)
        · have c1p := of_decide_eq_false c1
          refine wc_skip ?_
          refine wc_seq ?_
          refine wc_region ?_
          refine wl_v rfl rfl rfl (v_move rfl) ?_
          refine wl_v rfl rfl rfl (v_nil rfl) ?_
          refine wl_v rfl rfl rfl (v_fb (o2 := 0) fa115_0 rfl rfl) ?_
          refine wl_v rfl rfl rfl (v_load one64 rfl (H.at (UU _ _) rfl)) ?_
          refine wl_v rfl rfl rfl (v_move rfl) ?_
          refine wl_v rfl rfl rfl (v_idx Try.underlying64 sz5 hr.ad rfl rfl (by omega) (by omega)) ?_
          refine wl_v rfl rfl rfl (v_load one5 rfl (H.cell (hr.at1N (i := (a + j)) (by omega)))) ?_
          refine wl_v rfl rfl rfl (v_lss rfl rfl) ?_
          refine wl_nil ?_
          refine wc_cond rfl (fun c2 => ?_) (fun c2 => ?_)
          · have c2p := of_decide_eq_true c2
            refine wc_seq ?_
            refine wc_seq ?_
            refine wc_region ?_
            refine wl_v rfl rfl rfl (v_move rfl) ?_
            refine wl_v rfl rfl rfl (v_nil rfl) ?_
            refine wl_v rfl rfl rfl (v_fb (o2 := 0) fa115_0 rfl rfl) ?_
            refine wl_v rfl rfl rfl (v_load one64 rfl (H.at (UU _ _) rfl)) ?_
            refine wl_v rfl rfl rfl (v_move rfl) ?_
            refine wl_v rfl rfl rfl (v_idx Try.underlying64 sz5 hr.ad rfl rfl (by omega) (by omega)) ?_
            refine wl_v rfl rfl rfl (v_load one5 rfl (H.cell (hr.at1N (i := (a + j)) (by omega)))) ?_
            refine wl_v rfl rfl rfl (v_eql rfl rfl) ?_
            refine wl_v rfl rfl rfl (v_move rfl) ?_
            refine wl_guard rfl rfl rfl (fun g63 => ?_) (fun g63 => ?_)
            · have g63p := of_decide_eq_true g63
              refine wl_v rfl rfl rfl (v_move rfl) ?_
              refine wl_on' rfl rfl g63 ?_
              refine wl_v rfl rfl rfl (v_move rfl) ?_
              refine wl_on' rfl rfl g63 ?_
              refine wl_v rfl rfl rfl (v_nil rfl) ?_
              refine wl_on' rfl rfl g63 ?_
              refine wl_v rfl rfl rfl (v_fb (o2 := 1) fa115_1 rfl rfl) ?_
              refine wl_on' rfl rfl g63 ?_
              refine wl_v rfl rfl rfl (v_load one3 rfl (H.at (UU _ _) rfl)) ?_
              refine wl_on' rfl rfl g63 ?_
              refine wl_v rfl rfl rfl (v_gtr rfl rfl) ?_
              refine wl_v rfl rfl rfl (v_pick_t rfl g63 rfl) ?_
              refine wl_nil ?_
              refine wc_cond rfl (fun c3 => ?_) (fun c3 => ?_)
              · have c3p := of_decide_eq_true c3
                refine wc_exit ?_
                refine wc_seq ?_
                refine wc_region ?_
                refine wl_v rfl rfl rfl (v_move rfl) ?_
                refine wl_v rfl rfl rfl (v_nil rfl) ?_
                refine wl_v rfl rfl rfl (v_fb (o2 := 2) fa115_2 rfl rfl) ?_
                refine wl_store (vs := [_]) H (UU _ _) sz4 rfl rfl rfl rfl rfl (by (repeat constructor)) ?_
                intro w7 H8 hw7
                refine wl_nil ?_
                refine wc_seq ?_
                refine wc_region ?_
                refine wl_v rfl rfl rfl (v_assign rfl) ?_
                refine wl_nil ?_
                refine wc_ret ?_
                first
                  | (have hst := hst' (by omega)
                     have hn : num (bs.drop a) = some ((acc + ((bs.getD (a + j) 0).toNat % 128) * 2 ^ (7 * j)), bs.drop (a + j + 1)) := by rw [hst, if_pos (by omega), if_neg (by omega)]
                     have hd : bs.length - (bs.drop (a + j + 1)).length = a + j + 1 := by rw [List.length_drop]; omega
                     subst c0p
                     rw [nxtS_some hn, hd]
                     exact ⟨_, res1 rfl rfl, rfl, H8⟩)
                  | (have hn : nxtS bs a bad = (0, a, true) := by
                       cases bad
                       · refine nxtS_none ?_
                         first
                           | (rw [he, List.drop_of_length_le (by omega)]; exact numG_nil _ _ _)
                           | (rcases (by omega : j = 5 ∨ j < 5) with rfl | hj5
                              · rw [he]; rfl
                              · have hst := hst' hj5
                                rcases (by omega : bs.getD (a + j) 0 < 128 ∨ ¬ bs.getD (a + j) 0 < 128) with h1 | h1
                                · rw [hst, if_pos h1, if_pos (by omega)]
                                · rw [hst, if_neg h1]
                                  exact numG_big _ _ _ _ (by omega))
                           | exact absurd rfl c0p
                           | exact absurd c0p (by simp)
                       · rfl
                     rw [hn]
                     exact ⟨_, res1 rfl rfl, rfl, H8⟩)
              · have c3p := of_decide_eq_false c3
                refine wc_skip ?_
                refine wc_seq ?_
                refine wc_region ?_
                refine wl_v rfl rfl rfl (v_move rfl) ?_
                refine wl_v rfl rfl rfl (v_move rfl) ?_
                refine wl_v rfl rfl rfl (v_addi rfl rfl (by omega)) ?_
                refine wl_v rfl rfl rfl (v_nil rfl) ?_
                refine wl_v rfl rfl rfl (v_fb (o2 := 1) fa115_1 rfl rfl) ?_
                refine wl_store (vs := [_]) H (UU _ _) sz3 rfl rfl rfl rfl rfl (by (repeat constructor)) ?_
                intro w9 H10 hw9
                refine wl_nil ?_
                refine wc_seq ?_
                refine wc_region ?_
                refine wl_v rfl rfl rfl (v_move rfl) ?_
                refine wl_v rfl rfl rfl (v_assign rfl) ?_
                refine wl_nil ?_
                refine wc_ret ?_
                first
                  | (have hst := hst' (by omega)
                     have hn : num (bs.drop a) = some ((acc + ((bs.getD (a + j) 0).toNat % 128) * 2 ^ (7 * j)), bs.drop (a + j + 1)) := by rw [hst, if_pos (by omega), if_neg (by omega)]
                     have hd : bs.length - (bs.drop (a + j + 1)).length = a + j + 1 := by rw [List.length_drop]; omega
                     subst c0p
                     rw [nxtS_some hn, hd]
                     exact ⟨_, res1 rfl rfl, rfl, H10⟩)
                  | (have hn : nxtS bs a bad = (0, a, true) := by
                       cases bad
                       · refine nxtS_none ?_
                         first
                           | (rw [he, List.drop_of_length_le (by omega)]; exact numG_nil _ _ _)
                           | (rcases (by omega : j = 5 ∨ j < 5) with rfl | hj5
                              · rw [he]; rfl
                              · have hst := hst' hj5
                                rcases (by omega : bs.getD (a + j) 0 < 128 ∨ ¬ bs.getD (a + j) 0 < 128) with h1 | h1
                                · rw [hst, if_pos h1, if_pos (by omega)]
                                · rw [hst, if_neg h1]
                                  exact numG_big _ _ _ _ (by omega))
                           | exact absurd rfl c0p
                           | exact absurd c0p (by simp)
                       · rfl
                     rw [hn]
                     exact ⟨_, res1 rfl rfl, rfl, H10⟩)
            · have g63p := of_decide_eq_false g63
              refine wl_off rfl rfl g63 rfl ?_
              refine wl_off rfl rfl g63 rfl ?_
              refine wl_off rfl rfl g63 rfl ?_
              refine wl_off rfl rfl g63 rfl ?_
              refine wl_off rfl rfl g63 rfl ?_
              refine wl_v rfl rfl rfl (v_pick_f rfl g63 rfl) ?_
              refine wl_nil ?_
              refine wc_cond_f rfl ?_
              refine wc_skip ?_
              refine wc_seq ?_
              refine wc_region ?_
              refine wl_v rfl rfl rfl (v_move rfl) ?_
              refine wl_v rfl rfl rfl (v_move rfl) ?_
              refine wl_v rfl rfl rfl (v_addi rfl rfl (by omega)) ?_
              refine wl_v rfl rfl rfl (v_nil rfl) ?_
              refine wl_v rfl rfl rfl (v_fb (o2 := 1) fa115_1 rfl rfl) ?_
              refine wl_store (vs := [_]) H (UU _ _) sz3 rfl rfl rfl rfl rfl (by (repeat constructor)) ?_
              intro w11 H12 hw11
              refine wl_nil ?_
              refine wc_seq ?_
              refine wc_region ?_
              refine wl_v rfl rfl rfl (v_move rfl) ?_
              refine wl_v rfl rfl rfl (v_assign rfl) ?_
              refine wl_nil ?_
              refine wc_ret ?_
              first
                | (have hst := hst' (by omega)
                   have hn : num (bs.drop a) = some ((acc + ((bs.getD (a + j) 0).toNat % 128) * 2 ^ (7 * j)), bs.drop (a + j + 1)) := by rw [hst, if_pos (by omega), if_neg (by omega)]
                   have hd : bs.length - (bs.drop (a + j + 1)).length = a + j + 1 := by rw [List.length_drop]; omega
                   subst c0p
                   rw [nxtS_some hn, hd]
                   exact ⟨_, res1 rfl rfl, rfl, H12⟩)
                | (have hn : nxtS bs a bad = (0, a, true) := by
                     cases bad
                     · refine nxtS_none ?_
                       first
                         | (rw [he, List.drop_of_length_le (by omega)]; exact numG_nil _ _ _)
                         | (rcases (by omega : j = 5 ∨ j < 5) with rfl | hj5
                            · rw [he]; rfl
                            · have hst := hst' hj5
                              rcases (by omega : bs.getD (a + j) 0 < 128 ∨ ¬ bs.getD (a + j) 0 < 128) with h1 | h1
                              · rw [hst, if_pos h1, if_pos (by omega)]
                              · rw [hst, if_neg h1]
                                exact numG_big _ _ _ _ (by omega))
                         | exact absurd rfl c0p
                         | exact absurd c0p (by simp)
                     · rfl
                   rw [hn]
                   exact ⟨_, res1 rfl rfl, rfl, H12⟩)
          · have c2p := of_decide_eq_false c2
            refine wc_skip ?_
            refine wc_region ?_
            refine wl_v rfl rfl rfl (v_move rfl) ?_
            refine wl_v rfl rfl rfl (v_addi rfl rfl (by omega)) ?_
            refine wl_v rfl rfl rfl (v_assign rfl) ?_
            refine wl_nil ?_
            have hst := hst' (by omega)
            exact ⟨(j + 1, (acc + ((bs.getD (a + j) 0).toNat % 128) * 2 ^ (7 * j))), (sc rfl (sc rfl (sc rfl (sc rfl (sn _))))), ⟨⟨by dsimp only; omega, by dsimp only; omega, hnew (by omega), by dsimp only; rw [hst, if_neg (by omega), show 5 - (j + 1) = 4 - j by omega, show 7 * (j + 1) = 7 * j + 7 by omega]; rfl⟩, H⟩, by dsimp only; omega⟩
      · have g43p := of_decide_eq_true g43
        refine wl_off rfl rfl g43 rfl ?_
        refine wl_v rfl rfl rfl (v_pick_t rfl g43 rfl) ?_
        refine wl_nil ?_
        refine wc_cond_t rfl ?_
        refine wc_exit ?_
        refine wc_seq ?_
        refine wc_region ?_
        refine wl_v rfl rfl rfl (v_move rfl) ?_
        refine wl_v rfl rfl rfl (v_nil rfl) ?_
        refine wl_v rfl rfl rfl (v_fb (o2 := 2) fa115_2 rfl rfl) ?_
        refine wl_store (vs := [_]) H (UU _ _) sz4 rfl rfl rfl rfl rfl (by (repeat constructor)) ?_
        intro w13 H14 hw13
        refine wl_nil ?_
        refine wc_seq ?_
        refine wc_region ?_
        refine wl_v rfl rfl rfl (v_assign rfl) ?_
        refine wl_nil ?_
        refine wc_ret ?_
        first
          | (have hst := hst' (by omega)
             have hn : num (bs.drop a) = some ((acc + ((bs.getD (a + j) 0).toNat % 128) * 2 ^ (7 * j)), bs.drop (a + j + 1)) := by rw [hst, if_pos (by omega), if_neg (by omega)]
             have hd : bs.length - (bs.drop (a + j + 1)).length = a + j + 1 := by rw [List.length_drop]; omega
             subst c0p
             rw [nxtS_some hn, hd]
             exact ⟨_, res1 rfl rfl, rfl, H14⟩)
          | (have hn : nxtS bs a bad = (0, a, true) := by
               cases bad
               · refine nxtS_none ?_
                 first
                   | (rw [he, List.drop_of_length_le (by omega)]; exact numG_nil _ _ _)
                   | (rcases (by omega : j = 5 ∨ j < 5) with rfl | hj5
                      · rw [he]; rfl
                      · have hst := hst' hj5
                        rcases (by omega : bs.getD (a + j) 0 < 128 ∨ ¬ bs.getD (a + j) 0 < 128) with h1 | h1
                        · rw [hst, if_pos h1, if_pos (by omega)]
                        · rw [hst, if_neg h1]
                          exact numG_big _ _ _ _ (by omega))
                   | exact absurd rfl c0p
                   | exact absurd c0p (by simp)
               · rfl
             rw [hn]
             exact ⟨_, res1 rfl rfl, rfl, H14⟩)
    · have c0p := of_n_f c0
      refine wc_exit ?_
      refine wc_seq ?_
      refine wc_region ?_
      refine wl_v rfl rfl rfl (v_move rfl) ?_
      refine wl_v rfl rfl rfl (v_nil rfl) ?_
      refine wl_v rfl rfl rfl (v_fb (o2 := 2) fa115_2 rfl rfl) ?_
      refine wl_store (vs := [_]) H (UU _ _) sz4 rfl rfl rfl rfl rfl (by (repeat constructor)) ?_
      intro w15 H16 hw15
      refine wl_nil ?_
      refine wc_seq ?_
      refine wc_region ?_
      refine wl_v rfl rfl rfl (v_assign rfl) ?_
      refine wl_nil ?_
      refine wc_ret ?_
      first
        | (have hst := hst' (by omega)
           have hn : num (bs.drop a) = some ((acc + ((bs.getD (a + j) 0).toNat % 128) * 2 ^ (7 * j)), bs.drop (a + j + 1)) := by rw [hst, if_pos (by omega), if_neg (by omega)]
           have hd : bs.length - (bs.drop (a + j + 1)).length = a + j + 1 := by rw [List.length_drop]; omega
           subst c0p
           rw [nxtS_some hn, hd]
           exact ⟨_, res1 rfl rfl, rfl, H16⟩)
        | (have hn : nxtS bs a bad = (0, a, true) := by
             cases bad
             · refine nxtS_none ?_
               first
                 | (rw [he, List.drop_of_length_le (by omega)]; exact numG_nil _ _ _)
                 | (rcases (by omega : j = 5 ∨ j < 5) with rfl | hj5
                    · rw [he]; rfl
                    · have hst := hst' hj5
                      rcases (by omega : bs.getD (a + j) 0 < 128 ∨ ¬ bs.getD (a + j) 0 < 128) with h1 | h1
                      · rw [hst, if_pos h1, if_pos (by omega)]
                      · rw [hst, if_neg h1]
                        exact numG_big _ _ _ _ (by omega))
                 | exact absurd rfl c0p
                 | exact absurd c0p (by simp)
             · rfl
           rw [hn]
           exact ⟨_, res1 rfl rfl, rfl, H16⟩)
  · have g17p := of_decide_eq_false g17
    refine wl_off rfl rfl g17 rfl ?_
    refine wl_off rfl rfl g17 rfl ?_
    refine wl_off rfl rfl g17 rfl ?_
    refine wl_off rfl rfl g17 rfl ?_
    refine wl_v rfl rfl rfl (v_pick_f rfl g17 rfl) ?_
    refine wl_nil ?_
    refine wc_cond_f rfl ?_
    refine wc_exit ?_
    refine wc_seq ?_
    refine wc_region ?_
    refine wl_v rfl rfl rfl (v_move rfl) ?_
    refine wl_v rfl rfl rfl (v_nil rfl) ?_
    refine wl_v rfl rfl rfl (v_fb (o2 := 2) fa115_2 rfl rfl) ?_
    refine wl_store (vs := [_]) H (UU _ _) sz4 rfl rfl rfl rfl rfl (by (repeat constructor)) ?_
    intro w17 H18 hw17
    refine wl_nil ?_
    refine wc_seq ?_
    refine wc_region ?_
    refine wl_v rfl rfl rfl (v_assign rfl) ?_
    refine wl_nil ?_
    refine wc_ret ?_
    first
      | (have hst := hst' (by omega)
         have hn : num (bs.drop a) = some ((acc + ((bs.getD (a + j) 0).toNat % 128) * 2 ^ (7 * j)), bs.drop (a + j + 1)) := by rw [hst, if_pos (by omega), if_neg (by omega)]
         have hd : bs.length - (bs.drop (a + j + 1)).length = a + j + 1 := by rw [List.length_drop]; omega
         subst c0p
         rw [nxtS_some hn, hd]
         exact ⟨_, res1 rfl rfl, rfl, H18⟩)
      | (have hn : nxtS bs a bad = (0, a, true) := by
           cases bad
           · refine nxtS_none ?_
             first
               | (rw [he, List.drop_of_length_le (by omega)]; exact numG_nil _ _ _)
               | (rcases (by omega : j = 5 ∨ j < 5) with rfl | hj5
                  · rw [he]; rfl
                  · have hst := hst' hj5
                    rcases (by omega : bs.getD (a + j) 0 < 128 ∨ ¬ bs.getD (a + j) 0 < 128) with h1 | h1
                    · rw [hst, if_pos h1, if_pos (by omega)]
                    · rw [hst, if_neg h1]
                      exact numG_big _ _ _ _ (by omega))
               | exact absurd rfl c0p
               | exact absurd c0p (by simp)
           · rfl
         rw [hn]
         exact ⟨_, res1 rfl rfl, rfl, H18⟩)
end Go.Proofs.Ytkpehkadammppaa.NumW
