/- How table.laid lays rows. -/
import Derived.Test.YtkpehkadammppaaProg
import Derived.Test.YtkpehkadammppaaLaid
set_option linter.unusedVariables false
set_option linter.unusedSimpArgs false
namespace Go.Proofs.Ytkpehkadammppaa.LaidW
open Go Go.RowKit Go.Proofs.YtkpehkadammppaaFx Go.Proofs.Ytkpehkadammppaa.Free
theorem en56 : Enters Try.prog 56 := enters Try.func56 (by kernel_rfl) rfl
theorem en58 : Enters Try.prog 58 := enters Try.func58 (by kernel_rfl) rfl
theorem info3 : (Try.prog.info? 3).map (fun i => (i.zero, i.size, i.bytes)) = some (some (.int .i64 0), 1, 8) := by kernel_rfl
theorem one23 : One Try.prog 23 := one_of Try.underlying23 rfl (by kernel_rfl)
theorem one3 : One Try.prog 3 := one_of Try.underlying3 rfl (by kernel_rfl)
theorem one39 : One Try.prog 39 := one_of Try.underlying39 rfl (by kernel_rfl)
theorem sz3 : ∀ W, (sizeOf 3).run Try.prog W = .ok 1 W := size_of (by kernel_rfl)
theorem sz39 : ∀ W, (sizeOf 39).run Try.prog W = .ok 1 W := size_of (by kernel_rfl)
theorem zv3 : ∀ W, (zeroValue 3).run Try.prog W = .ok (.int .i64 0) W := zero_of (by kernel_rfl)
theorem zv39 : ∀ W, (zeroValue 39).run Try.prog W = .ok (.slice none 0 0) W := zero_of (by kernel_rfl)

set_option maxRecDepth 100000 in
theorem laid_calls {A : Option Addr} {ca : Nat} {rows : List (List Int)} {least : Int} {w : World} {M : Nat} (ord : List Int) (hR : Rd (kInt .i64).sl w A rows) (hM : ∀ r ∈ rows, ∀ k ∈ r, 0 ≤ k ∧ k < M) (hW : ∀ r ∈ rows, r.length ≤ 1099511627776) (hn : rows.length * M ≤ 1099511627776) (hn2 : rows.length ≤ 1099511627776) (hM2 : M ≤ 1099511627776) (hl : least ≤ 1099511627776)
    (hol : ord.length = rows.length) (hord : ∀ x ∈ ord, 0 ≤ x ∧ x < rows.length)
    (hsort : ∀ (W : World) (A15 : Option Addr) (b2 b6 : Nat), Holds w [Row (fInt .i64) 3 (.slice A15 rows.length rows.length) (iota rows.length), Blk b6 39 [.slice A15 rows.length rows.length], Blk b2 23 [.slice A rows.length ca]] W →
      Calls Try.prog 56 #[.iface 39 (.slice A15 rows.length rows.length), .func (.func 57) #[] #[.pointer (some ⟨b2, 0, none⟩), .pointer (some ⟨b6, 0, none⟩)]] W fun e w' => ∃ v, e = .returned v ∧ v = .tuple #[] ∧ Holds w [Row (fInt .i64) 3 (.slice A15 rows.length rows.length) ord, Blk b6 39 [.slice A15 rows.length rows.length], Blk b2 23 [.slice A rows.length ca]] w') :
    Calls Try.prog 41 #[.slice A rows.length ca, .int .i64 least] w fun e w' => ∃ v, e = .returned v ∧ ∃ A1 c1 A2 c2, v = .tuple #[.slice A1 (laidF rows ord least).1.length c1, .slice A2 (laidF rows ord least).2.length c2] ∧ Holds w [Row (fInt .i64) 3 (.slice A1 (laidF rows ord least).1.length c1) (laidF rows ord least).1, Row (fInt .i64) 3 (.slice A2 (laidF rows ord least).2.length c2) (laidF rows ord least).2] w' := by
  refine calls_of Try.func41 rfl Try.ntmps41 rfl ?_
  have H := Holds.start w
  refine wc_seq ?_
  refine wc_region ?_
  refine wl_box (cs := [_]) H rfl rfl rfl ?_
  intro b2 w1 hb2 H2
  refine wl_v rfl rfl rfl (v_assign rfl) ?_
  refine wl_v rfl rfl rfl (v_assign rfl) ?_
  refine wl_nil ?_
  refine wc_seq ?_
  refine wc_region ?_
  refine wl_v rfl rfl rfl (v_load one23 rfl (H2.at (by repeat constructor) rfl)) ?_
  refine wl_v rfl rfl rfl (v_len Try.underlying23 rfl) ?_
  refine wl_make (f := fInt .i64) (z' := 0) H2 rfl Try.underlying39 info3 rfl (by decide) rfl rfl (by omega) (by omega) (by decide) ?_
  intro A15 w3 H3 hs3
  rw [Int.toNat_natCast] at H3 ⊢
  refine wl_alloc (cs := [.slice none 0 0]) H3 rfl zv39 rfl ?_
  intro b6 w4 hb6 H5
  refine wl_store (vs := [_]) H5 (by repeat constructor) sz39 rfl rfl rfl rfl rfl (by repeat constructor) ?_
  intro w6 H7 hw6
  refine wl_nil ?_
  refine wc_seq ?_
  refine wc_seq ?_
  refine wc_region ?_
  refine wl_v rfl rfl rfl (v_load one39 rfl (H7.at (by repeat constructor) rfl)) ?_
  refine wl_v rfl rfl rfl (v_len Try.underlying39 rfl) ?_
  refine wl_v rfl rfl rfl (v_move rfl) ?_
  refine wl_nil ?_
  refine wc_block ?_
  refine wc_loop (σ := Nat) (fun s => [(1, .int .i64 least), (2, .pointer (some ⟨b2, 0, none⟩)), (4, .slice none 0 0), (5, .slice none 0 0), (6, .pointer (some ⟨b6, 0, none⟩)), (17, .int .i64 rows.length), (18, .int .i64 s)]) (fun s W => s ≤ rows.length ∧ Holds w [Row (fInt .i64) 3 (.slice A15 rows.length rows.length) (fillN rows.length s), Blk b6 39 [.slice A15 rows.length rows.length], Blk b2 23 [.slice A rows.length ca]] W) (fun s => rows.length - s) 0 (sc rfl (sc rfl (sc rfl (sc rfl (sc rfl (sc rfl (sc rfl (sn _)))))))) ⟨Nat.zero_le _, H7.pm (by repeat constructor)⟩ ?_
  rintro s W0 ⟨hs, H⟩
  refine wc_seq ?_
  refine wc_region ?_
  refine wl_v rfl rfl rfl (v_lss rfl rfl) ?_
  refine wl_nil ?_
  refine wc_seq ?_
  refine wc_cond rfl (fun c0 => ?_) (fun c0 => ?_)
  · have c0p := of_decide_eq_true c0
    have hfl := fillN_len (n := rows.length) (s := s) (by omega)
    have hrow0 := H.rrd (f := fInt .i64) (e := 3) (A := A15) (xs := fillN rows.length s) (by repeat constructor)
    have hrad0 : 0 < rows.length → A15 = some (adr A15) := fun h => hrow0.ad (by omega)
    refine wc_skip ?_
    refine wc_seq ?_
    refine wc_block ?_
    refine wc_seq ?_
    refine wc_region ?_
    refine wl_v rfl rfl rfl (v_move rfl) ?_
    refine wl_v rfl rfl rfl (v_assign rfl) ?_
    refine wl_nil ?_
    refine wc_region ?_
    refine wl_v rfl rfl rfl (v_load one39 rfl (H.at (by repeat constructor) rfl)) ?_
    refine wl_v rfl rfl rfl (v_move rfl) ?_
    refine wl_v rfl rfl rfl (v_move rfl) ?_
    refine wl_v rfl rfl rfl (v_idx Try.underlying39 sz3 hrad0 rfl rfl (by omega) (by omega)) ?_
    refine wl_storeR (f := fInt .i64) (xs := fillN rows.length s) (i := (s : Int)) (x' := (s : Int)) H (by repeat constructor) sz3 rfl rfl rfl (by omega) (by omega) ?_
    intro w8 H8
    refine wl_nil ?_
    refine wc_region ?_
    refine wl_v rfl rfl rfl (v_addi rfl rfl (by omega)) ?_
    refine wl_v rfl rfl rfl (v_move rfl) ?_
    refine wl_nil ?_
    exact ⟨s + 1, (sc rfl (sc rfl (sc rfl (sc rfl (sc rfl (sc rfl (sc rfl (sn _)))))))), ⟨by omega, by rw [← fillN_next (by omega)]; exact H8.pm (by repeat constructor)⟩, by omega⟩
  · have c0p := of_decide_eq_false c0
    rw [fillN_all hs c0p] at H
    refine wc_exit ?_
    refine wc_seq ?_
    refine wc_region ?_
    refine wl_v rfl rfl rfl (v_load one39 rfl (H.at (by repeat constructor) rfl)) ?_
    refine wl_v rfl rfl rfl (v_iface (i := 0) (by kernel_rfl) rfl) ?_
    refine wl_v rfl rfl rfl (v_fn rfl rfl) ?_
    refine wl_call en56 rfl rfl (hsort _ _ _ _ (H.pm (by repeat constructor))) ?_
    rintro _ w10 ⟨rfl, Hc⟩
    have H11 := Hc
    refine wl_nil ?_
    refine wc_seq ?_
    refine wc_region ?_
    refine wl_v rfl rfl rfl (v_load one23 rfl (H11.at (by repeat constructor) rfl)) ?_
    refine wl_v rfl rfl rfl (v_len Try.underlying23 rfl) ?_
    refine wl_make (f := fInt .i64) (z' := 0) H11 rfl Try.underlying39 info3 rfl (by decide) rfl rfl (by omega) (by omega) (by decide) ?_
    intro A32 w12 H12 hs12
    rw [Int.toNat_natCast] at H12 ⊢
    refine wl_v rfl rfl rfl (v_assign rfl) ?_
    refine wl_nil ?_
    refine wc_seq ?_
    refine wc_seq ?_
    refine wc_region ?_
    refine wl_v rfl rfl rfl (v_load one39 rfl (H12.at (by repeat constructor) rfl)) ?_
    refine wl_v rfl rfl rfl (v_len Try.underlying39 rfl) ?_
    refine wl_v rfl rfl rfl (v_move rfl) ?_
    refine wl_nil ?_
    refine wc_block ?_
    refine wc_loop (σ := Nat × Option Addr × Nat) (fun s => [(1, .int .i64 least), (2, .pointer (some ⟨b2, 0, none⟩)), (4, .slice A32 rows.length rows.length), (5, .slice s.2.1 ((stN rows ord s.1).2).length s.2.2), (33, .slice A15 rows.length rows.length), (34, .int .i64 rows.length), (35, .int .i64 s.1)]) (fun s W => s.1 ≤ rows.length ∧ (stN rows ord s.1).2.length ≤ s.1 * M ∧ Holds w [Row (fInt .i64) 3 (.slice s.2.1 ((stN rows ord s.1).2).length s.2.2) ((stN rows ord s.1).2), Row (fInt .i64) 3 (.slice A32 rows.length rows.length) ((stN rows ord s.1).1), Row (fInt .i64) 3 (.slice A15 rows.length rows.length) ord, Blk b6 39 [.slice A15 rows.length rows.length], Blk b2 23 [.slice A rows.length ca]] W) (fun s => rows.length - s.1) (0, none, 0) (sc rfl (sc rfl (sc rfl (sc rfl (sc rfl (sc rfl (sc rfl (sn _)))))))) ⟨Nat.zero_le _, Nat.zero_le _, (H12.nilrow 3 1).pm (by repeat constructor)⟩ ?_
    rintro ⟨i, A5, c5⟩ W1 ⟨hi, hcl, H⟩
    dsimp only at hi hcl H ⊢
    refine wc_seq ?_
    refine wc_region ?_
    refine wl_v rfl rfl rfl (v_lss rfl rfl) ?_
    refine wl_nil ?_
    refine wc_seq ?_
    refine wc_cond rfl (fun c1 => ?_) (fun c1 => ?_)
    · have c1p := of_decide_eq_true c1
      have hrow1 := H.rrd (f := fInt .i64) (e := 3) (A := A15) (xs := ord) (by repeat constructor)
      have hrad1 : 0 < rows.length → A15 = some (adr A15) := fun h => hrow1.ad (by omega)
      have hS := hord (ord.getD i 0) (getD_mem (by omega))
      have hSn : (ord.getD i 0).toNat < rows.length := by omega
      have hrl := hW (rows.getD (ord.getD i 0).toNat []) (getD_mem hSn)
      have hbl0 := stN_len rows ord i
      have hiM : i * M ≤ rows.length * M := Nat.mul_le_mul_right _ hi
      have hk0 : ∀ k ∈ (rows.getD (ord.getD i 0).toNat []), 0 ≤ k := fun k hk => (hM _ (getD_mem hSn) k hk).1
      have hrowb := H.rrd (f := fInt .i64) (e := 3) (A := A32) (xs := (stN rows ord i).1) (by repeat constructor)
      have hradb : 0 < rows.length → A32 = some (adr A32) := fun h => hrowb.ad (by omega)
      refine wc_skip ?_
      refine wc_seq ?_
      refine wc_block ?_
      refine wc_seq ?_
      refine wc_region ?_
      refine wl_v rfl rfl rfl (v_idx Try.underlying39 sz3 hrad1 rfl rfl (by omega) (by omega)) ?_
      refine wl_v rfl rfl rfl (v_load one3 rfl (hrow1.at1N (i := i) (by omega))) ?_
      refine wl_v rfl rfl rfl (v_assign rfl) ?_
      refine wl_nil ?_
      refine wc_seq ?_
      refine wc_region ?_
      refine wl_v rfl rfl rfl (v_assign rfl) ?_
      refine wl_nil ?_
      refine wc_seq ?_
      refine wc_block ?_
      refine wc_loop (σ := Nat) (fun s => [(1, .int .i64 least), (2, .pointer (some ⟨b2, 0, none⟩)), (4, .slice A32 rows.length rows.length), (5, .slice A5 ((stN rows ord i).2).length c5), (33, .slice A15 rows.length rows.length), (34, .int .i64 rows.length), (35, .int .i64 i), (9, .int .i64 (ord.getD i 0)), (10, .int .i64 s)]) (fun s W => s ≤ (stN rows ord i).2.length ∧ (∀ b', b' < s → freeB (stN rows ord i).2 (rows.getD (ord.getD i 0).toNat []) (b' : Int) = false) ∧ Holds w [Row (fInt .i64) 3 (.slice A5 ((stN rows ord i).2).length c5) ((stN rows ord i).2), Row (fInt .i64) 3 (.slice A32 rows.length rows.length) ((stN rows ord i).1), Row (fInt .i64) 3 (.slice A15 rows.length rows.length) ord, Blk b6 39 [.slice A15 rows.length rows.length], Blk b2 23 [.slice A rows.length ca]] W) (fun s => (stN rows ord i).2.length + 1 - s) 0 (sc rfl (sc rfl (sc rfl (sc rfl (sc rfl (sc rfl (sc rfl (sc rfl (sc rfl (sn _)))))))))) ⟨Nat.zero_le _, upto_zero, H.pm (by repeat constructor)⟩ ?_
      rintro b W2 ⟨hb, hlow, H⟩
      refine wc_seq ?_
      refine wc_seq ?_
      refine wc_region ?_
      refine wl_v rfl rfl rfl (v_load one23 rfl (H.at (by repeat constructor) rfl)) ?_
      refine wl_v rfl rfl rfl (v_move rfl) ?_
      refine wl_v rfl rfl rfl (v_idx Try.underlying23 sz39 hR.ad rfl rfl (by omega) (by omega)) ?_
      obtain ⟨B42, cp42, hc42, hl42, hr42⟩ := hR.atSl (i := (ord.getD i 0)) (by omega) (by omega)
      refine wl_v rfl rfl rfl (v_load one39 rfl (H.cell (hc42))) ?_
      refine wl_v rfl rfl rfl (v_len Try.underlying39 rfl) ?_
      refine wl_v rfl rfl rfl (v_gtr rfl rfl) ?_
      refine wl_v rfl rfl rfl (v_move rfl) ?_
      refine wl_guard rfl rfl rfl (fun g45 => ?_) (fun g45 => ?_)
      · have g45p := of_decide_eq_true g45
        refine wl_v rfl rfl rfl (v_move rfl) ?_
        refine wl_on' rfl rfl g45 ?_
        refine wl_v rfl rfl rfl (v_load one23 rfl (H.at (by repeat constructor) rfl)) ?_
        refine wl_on' rfl rfl g45 ?_
        refine wl_v rfl rfl rfl (v_move rfl) ?_
        refine wl_on' rfl rfl g45 ?_
        refine wl_v rfl rfl rfl (v_idx Try.underlying23 sz39 hR.ad rfl rfl (by omega) (by omega)) ?_
        refine wl_on' rfl rfl g45 ?_
        obtain ⟨B50, cp50, hc50, hl50, hr50⟩ := hR.atSl (i := (ord.getD i 0)) (by omega) (by omega)
        refine wl_v rfl rfl rfl (v_load one39 rfl (H.cell (hc50))) ?_
        refine wl_on' rfl rfl g45 ?_
        refine wl_v rfl rfl rfl (v_move rfl) ?_
        refine wl_on' rfl rfl g45 ?_
        refine wl_call en58 rfl rfl (free_calls (H.rrd (f := fInt .i64) (A := A5) (xs := (stN rows ord i).2) (by repeat constructor)) (hr50.below H.old) (by unfold maxLen; omega) (by unfold maxLen; omega) (by omega) (fun k hk => by have := hM _ (getD_mem hSn) k hk; omega)) ?_
        rintro _ w13 ⟨rfl, Hc⟩
        have H14 := H.call Hc
        refine wl_on' rfl rfl g45 ?_
        refine wl_v rfl rfl rfl (v_not rfl) ?_
        refine wl_v rfl rfl rfl (v_pick_t rfl g45 rfl) ?_
        refine wl_nil ?_
        refine wc_cond rfl (fun c2 => ?_) (fun c2 => ?_)
        · have c2p := of_n_t c2
          refine wc_skip ?_
          refine wc_block ?_
          refine wc_region ?_
          refine wl_v rfl rfl rfl (v_move rfl) ?_
          refine wl_v rfl rfl rfl (v_addi rfl rfl (by omega)) ?_
          refine wl_v rfl rfl rfl (v_assign rfl) ?_
          refine wl_nil ?_
          have hbl : (b : Int) < (stN rows ord i).2.length := by
            rcases (by omega : (b : Int) < (stN rows ord i).2.length ∨ ((stN rows ord i).2.length : Int) ≤ b) with h | h
            · exact h
            · rw [freeB_end h hk0] at c2p; exact absurd c2p (by simp)
          exact ⟨b + 1, (sc rfl (sc rfl (sc rfl (sc rfl (sc rfl (sc rfl (sc rfl (sc rfl (sc rfl (sn _)))))))))), ⟨by omega, upto_succ hlow c2p, H14.pm (by repeat constructor)⟩, by omega⟩
        · have c2p := of_n_f c2
          have hbf := firstFree_is hlow c2p hb
          refine wc_exit ?_
          refine wc_seq ?_
          refine wc_region ?_
          refine wl_v rfl rfl rfl (v_move rfl) ?_
          refine wl_v rfl rfl rfl (v_move rfl) ?_
          refine wl_v rfl rfl rfl (v_move rfl) ?_
          refine wl_v rfl rfl rfl (v_idx Try.underlying39 sz3 hradb rfl rfl (by omega) (by omega)) ?_
          refine wl_storeR (f := fInt .i64) (xs := (stN rows ord i).1) (i := (ord.getD i 0)) (x' := (b : Int)) H14 (by repeat constructor) sz3 rfl rfl rfl (by omega) (by omega) ?_
          intro w15 H15
          refine wl_nil ?_
          refine wc_seq ?_
          refine wc_region ?_
          refine wl_v rfl rfl rfl (v_load one23 rfl (H15.at (by repeat constructor) rfl)) ?_
          refine wl_v rfl rfl rfl (v_move rfl) ?_
          refine wl_v rfl rfl rfl (v_idx Try.underlying23 sz39 hR.ad rfl rfl (by omega) (by omega)) ?_
          obtain ⟨B64, cp64, hc64, hl64, hr64⟩ := hR.atSl (i := (ord.getD i 0)) (by omega) (by omega)
          refine wl_v rfl rfl rfl (v_load one39 rfl (H15.cell (hc64))) ?_
          refine wl_v rfl rfl rfl (v_len Try.underlying39 rfl) ?_
          refine wl_v rfl rfl rfl (v_move rfl) ?_
          refine wl_nil ?_
          refine wc_block ?_
          refine wc_loop (σ := Nat × Option Addr × Nat) (fun s => [(1, .int .i64 least), (2, .pointer (some ⟨b2, 0, none⟩)), (4, .slice A32 rows.length rows.length), (5, .slice s.2.1 (putsN (stN rows ord i).2 (rows.getD (ord.getD i 0).toNat []) b (ord.getD i 0) s.1).length s.2.2), (33, .slice A15 rows.length rows.length), (34, .int .i64 rows.length), (35, .int .i64 i), (9, .int .i64 (ord.getD i 0)), (10, .int .i64 b), (64, .slice B64 (rows.getD (ord.getD i 0).toNat []).length cp64), (65, .int .i64 (rows.getD (ord.getD i 0).toNat []).length), (66, .int .i64 s.1)]) (fun s W => s.1 ≤ (rows.getD (ord.getD i 0).toNat []).length ∧ (putsN (stN rows ord i).2 (rows.getD (ord.getD i 0).toNat []) b (ord.getD i 0) s.1).length ≤ (stN rows ord i).2.length + M ∧ Holds w [Row (fInt .i64) 3 (.slice s.2.1 (putsN (stN rows ord i).2 (rows.getD (ord.getD i 0).toNat []) b (ord.getD i 0) s.1).length s.2.2) (putsN (stN rows ord i).2 (rows.getD (ord.getD i 0).toNat []) b (ord.getD i 0) s.1), Row (fInt .i64) 3 (.slice A32 rows.length rows.length) ((stN rows ord i).1.set (ord.getD i 0).toNat b), Row (fInt .i64) 3 (.slice A15 rows.length rows.length) ord, Blk b6 39 [.slice A15 rows.length rows.length], Blk b2 23 [.slice A rows.length ca]] W) (fun s => (rows.getD (ord.getD i 0).toNat []).length - s.1) (0, A5, c5) (sc rfl (sc rfl (sc rfl (sc rfl (sc rfl (sc rfl (sc rfl (sc rfl (sc rfl (sc rfl (sc rfl (sc rfl (sn _))))))))))))) ⟨Nat.zero_le _, Nat.le_add_right _ _, H15.pm (by repeat constructor)⟩ ?_
          rintro ⟨j, A6, c6⟩ W3 ⟨hj, hpl, H⟩
          dsimp only at hj hpl H ⊢
          refine wc_seq ?_
          refine wc_region ?_
          refine wl_v rfl rfl rfl (v_lss rfl rfl) ?_
          refine wl_nil ?_
          refine wc_seq ?_
          refine wc_cond rfl (fun c3 => ?_) (fun c3 => ?_)
          · have c3p := of_decide_eq_true c3
            have hkj := hM _ (getD_mem hSn) ((rows.getD (ord.getD i 0).toNat []).getD j 0) (getD_mem (by omega))
            refine wc_skip ?_
            refine wc_seq ?_
            refine wc_block ?_
            refine wc_seq ?_
            refine wc_region ?_
            refine wl_v rfl rfl rfl (v_idx Try.underlying39 sz3 hr64.ad rfl rfl (by omega) (by omega)) ?_
            refine wl_v rfl rfl rfl (v_load one3 rfl (H.cell (hr64.at1N (i := j) (by omega)))) ?_
            refine wl_v rfl rfl rfl (v_assign rfl) ?_
            refine wl_nil ?_
            refine wc_seq ?_
            refine wc_block ?_
            refine wc_loop (σ := Nat × Option Addr × Nat) (fun s => [(1, .int .i64 least), (2, .pointer (some ⟨b2, 0, none⟩)), (4, .slice A32 rows.length rows.length), (5, .slice s.2.1 ((padN (putsN (stN rows ord i).2 (rows.getD (ord.getD i 0).toNat []) b (ord.getD i 0) j) s.1)).length s.2.2), (33, .slice A15 rows.length rows.length), (34, .int .i64 rows.length), (35, .int .i64 i), (9, .int .i64 (ord.getD i 0)), (10, .int .i64 b), (12, .int .i64 ((rows.getD (ord.getD i 0).toNat []).getD j 0)), (64, .slice B64 (rows.getD (ord.getD i 0).toNat []).length cp64), (65, .int .i64 (rows.getD (ord.getD i 0).toNat []).length), (66, .int .i64 j)]) (fun s W => (s.1 = 0 ∨ (putsN (stN rows ord i).2 (rows.getD (ord.getD i 0).toNat []) b (ord.getD i 0) j).length + s.1 ≤ ((b : Int) + (rows.getD (ord.getD i 0).toNat []).getD j 0).toNat + 1) ∧ Holds w [Row (fInt .i64) 3 (.slice s.2.1 ((padN (putsN (stN rows ord i).2 (rows.getD (ord.getD i 0).toNat []) b (ord.getD i 0) j) s.1)).length s.2.2) ((padN (putsN (stN rows ord i).2 (rows.getD (ord.getD i 0).toNat []) b (ord.getD i 0) j) s.1)), Row (fInt .i64) 3 (.slice A32 rows.length rows.length) ((stN rows ord i).1.set (ord.getD i 0).toNat b), Row (fInt .i64) 3 (.slice A15 rows.length rows.length) ord, Blk b6 39 [.slice A15 rows.length rows.length], Blk b2 23 [.slice A rows.length ca]] W) (fun s => ((b : Int) + (rows.getD (ord.getD i 0).toNat []).getD j 0).toNat + 1 - ((putsN (stN rows ord i).2 (rows.getD (ord.getD i 0).toNat []) b (ord.getD i 0) j).length + s.1)) (0, A6, c6) (sc rfl (sc rfl (sc rfl (sc rfl (sc rfl (sc rfl (sc rfl (sc rfl (sc rfl (sc rfl (sc rfl (sc rfl (sc rfl (sn _)))))))))))))) ⟨.inl rfl, H.pm (by repeat constructor)⟩ ?_
            rintro ⟨q, A7, c7⟩ W4 ⟨hq, H⟩
            dsimp only at hq H ⊢
            have hql : ((padN (putsN (stN rows ord i).2 (rows.getD (ord.getD i 0).toNat []) b (ord.getD i 0) j) q)).length = (putsN (stN rows ord i).2 (rows.getD (ord.getD i 0).toNat []) b (ord.getD i 0) j).length + q := padN_len _ _
            refine wc_seq ?_
            refine wc_seq ?_
            refine wc_region ?_
            refine wl_v rfl rfl rfl (v_move rfl) ?_
            refine wl_v rfl rfl rfl (v_len Try.underlying39 rfl) ?_
            refine wl_v rfl rfl rfl (v_move rfl) ?_
            refine wl_v rfl rfl rfl (v_move rfl) ?_
            refine wl_v rfl rfl rfl (v_addi rfl rfl (by omega)) ?_
            refine wl_v rfl rfl rfl (v_leq rfl rfl) ?_
            refine wl_nil ?_
            refine wc_cond rfl (fun c4 => ?_) (fun c4 => ?_)
            · have c4p := of_decide_eq_true c4
              refine wc_skip ?_
              refine wc_block ?_
              refine wc_region ?_
              refine wl_v rfl rfl rfl (v_move rfl) ?_
              refine wl_slit (v := .int .i64 0) (z := [.int .i64 0]) (cs := [.int .i64 (-1)]) (sz := 1) H rfl Try.underlying39 sz3 zv3 (by decide) (by decide) (by kernel_rfl) rfl (by repeat constructor) ?_
              intro b77 w16 hb77 H16 hs16
              refine wl_app1 (f := fInt .i64) (xs := (padN (putsN (stN rows ord i).2 (rows.getD (ord.getD i 0).toNat []) b (ord.getD i 0) j) q)) (y' := -1) H16 (fun v' => (by repeat constructor)) (by repeat constructor) rfl Try.underlying39 info3 rfl (by decide) rfl rfl rfl (by omega) (by decide) ?_
              intro A78 c78 w17 H17 hs17
              refine wl_v rfl rfl rfl (v_assign rfl) ?_
              refine wl_nil ?_
              exact ⟨(q + 1, A78, c78), (sc rfl (sc rfl (sc rfl (sc rfl (sc rfl (sc rfl (sc rfl (sc rfl (sc rfl (sc rfl (sc rfl (sc rfl (sc rfl (sn _)))))))))))))), ⟨.inr (by dsimp only; omega), H17.pm (by repeat constructor)⟩, by dsimp only; omega⟩
            · have c4p := of_decide_eq_false c4
              have hrowc := H.rrd (f := fInt .i64) (e := 3) (A := A7) (xs := (padN (putsN (stN rows ord i).2 (rows.getD (ord.getD i 0).toNat []) b (ord.getD i 0) j) q)) (by repeat constructor)
              have hradc : 0 < ((padN (putsN (stN rows ord i).2 (rows.getD (ord.getD i 0).toNat []) b (ord.getD i 0) j) q)).length → A7 = some (adr A7) := fun h => hrowc.ad h
              refine wc_exit ?_
              refine wc_region ?_
              refine wl_v rfl rfl rfl (v_move rfl) ?_
              refine wl_v rfl rfl rfl (v_move rfl) ?_
              refine wl_v rfl rfl rfl (v_move rfl) ?_
              refine wl_v rfl rfl rfl (v_addi rfl rfl (by omega)) ?_
              refine wl_v rfl rfl rfl (v_move rfl) ?_
              refine wl_v rfl rfl rfl (v_idx Try.underlying39 sz3 hradc rfl rfl (by omega) (by omega)) ?_
              refine wl_storeR (f := fInt .i64) (xs := (padN (putsN (stN rows ord i).2 (rows.getD (ord.getD i 0).toNat []) b (ord.getD i 0) j) q)) (i := (b : Int) + (rows.getD (ord.getD i 0).toNat []).getD j 0) (x' := (ord.getD i 0)) H (by repeat constructor) sz3 rfl rfl rfl (by omega) (by omega) ?_
              intro w18 H18
              refine wl_nil ?_
              refine wc_region ?_
              refine wl_v rfl rfl rfl (v_addi rfl rfl (by omega)) ?_
              refine wl_v rfl rfl rfl (v_move rfl) ?_
              refine wl_nil ?_
              have hp := pad_is (C := (putsN (stN rows ord i).2 (rows.getD (ord.getD i 0).toNat []) b (ord.getD i 0) j)) (q := q) (n := ((b : Int) + (rows.getD (ord.getD i 0).toNat []).getD j 0).toNat + 1) (by omega) (by omega)
              have hpe : (padN (putsN (stN rows ord i).2 (rows.getD (ord.getD i 0).toNat []) b (ord.getD i 0) j) q).set ((b : Int) + (rows.getD (ord.getD i 0).toNat []).getD j 0).toNat (ord.getD i 0) = putsN (stN rows ord i).2 (rows.getD (ord.getD i 0).toNat []) b (ord.getD i 0) (j + 1) := by rw [putsN_succ (by omega), putAt, hp]
              have hll : (putsN (stN rows ord i).2 (rows.getD (ord.getD i 0).toNat []) b (ord.getD i 0) (j + 1)).length = ((padN (putsN (stN rows ord i).2 (rows.getD (ord.getD i 0).toNat []) b (ord.getD i 0) j) q)).length := by rw [← hpe, List.length_set]
              rw [← len_set (padN (putsN (stN rows ord i).2 (rows.getD (ord.getD i 0).toNat []) b (ord.getD i 0) j) q) ((b : Int) + (rows.getD (ord.getD i 0).toNat []).getD j 0).toNat (ord.getD i 0), hpe] at H18
              exact ⟨(j + 1, A7, c7), by rw [hll]; exact (sc rfl (sc rfl (sc rfl (sc rfl (sc rfl (sc rfl (sc rfl (sc rfl (sc rfl (sc rfl (sc rfl (sc rfl (sn _))))))))))))), ⟨by dsimp only; omega, by dsimp only; rw [hll]; omega, H18.pm (by repeat constructor)⟩, by dsimp only; omega⟩
          · have c3p := of_decide_eq_false c3
            refine wc_exit ?_
            refine wc_region ?_
            refine wl_v rfl rfl rfl (v_addi rfl rfl (by omega)) ?_
            refine wl_v rfl rfl rfl (v_move rfl) ?_
            refine wl_nil ?_
            exact ⟨(i + 1, A6, c6), by rw [stN_succ (by omega) hbf]; rw [take_done c3p]; exact (sc rfl (sc rfl (sc rfl (sc rfl (sc rfl (sc rfl (sc rfl (sn _)))))))), ⟨by dsimp only; omega, by rw [stN_succ (by omega) hbf]; dsimp only; rw [take_done c3p, Nat.succ_mul]; omega, by rw [stN_succ (by omega) hbf]; rw [take_done c3p]; exact H.pm (by repeat constructor)⟩, by dsimp only; omega⟩
      · have g45p := of_decide_eq_false g45
        have hbf := firstFree_is hlow (by rw [List.eq_nil_of_length_eq_zero (l := (rows.getD (ord.getD i 0).toNat [])) (by omega)]; rfl) hb
        refine wl_off rfl rfl g45 rfl ?_
        refine wl_off rfl rfl g45 rfl ?_
        refine wl_off rfl rfl g45 rfl ?_
        refine wl_off rfl rfl g45 rfl ?_
        refine wl_off rfl rfl g45 rfl ?_
        refine wl_off rfl rfl g45 rfl ?_
        refine wl_off rfl rfl g45 rfl ?_
        refine wl_v rfl rfl rfl (v_pick_f rfl g45 rfl) ?_
        refine wl_nil ?_
        refine wc_cond_f rfl ?_
        refine wc_exit ?_
        refine wc_seq ?_
        refine wc_region ?_
        refine wl_v rfl rfl rfl (v_move rfl) ?_
        refine wl_v rfl rfl rfl (v_move rfl) ?_
        refine wl_v rfl rfl rfl (v_move rfl) ?_
        refine wl_v rfl rfl rfl (v_idx Try.underlying39 sz3 hradb rfl rfl (by omega) (by omega)) ?_
        refine wl_storeR (f := fInt .i64) (xs := (stN rows ord i).1) (i := (ord.getD i 0)) (x' := (b : Int)) H (by repeat constructor) sz3 rfl rfl rfl (by omega) (by omega) ?_
        intro w19 H19
        refine wl_nil ?_
        refine wc_seq ?_
        refine wc_region ?_
        refine wl_v rfl rfl rfl (v_load one23 rfl (H19.at (by repeat constructor) rfl)) ?_
        refine wl_v rfl rfl rfl (v_move rfl) ?_
        refine wl_v rfl rfl rfl (v_idx Try.underlying23 sz39 hR.ad rfl rfl (by omega) (by omega)) ?_
        obtain ⟨B64, cp64, hc64, hl64, hr64⟩ := hR.atSl (i := (ord.getD i 0)) (by omega) (by omega)
        refine wl_v rfl rfl rfl (v_load one39 rfl (H19.cell (hc64))) ?_
        refine wl_v rfl rfl rfl (v_len Try.underlying39 rfl) ?_
        refine wl_v rfl rfl rfl (v_move rfl) ?_
        refine wl_nil ?_
        refine wc_block ?_
        refine wc_loop (σ := Nat × Option Addr × Nat) (fun s => [(1, .int .i64 least), (2, .pointer (some ⟨b2, 0, none⟩)), (4, .slice A32 rows.length rows.length), (5, .slice s.2.1 (putsN (stN rows ord i).2 (rows.getD (ord.getD i 0).toNat []) b (ord.getD i 0) s.1).length s.2.2), (33, .slice A15 rows.length rows.length), (34, .int .i64 rows.length), (35, .int .i64 i), (9, .int .i64 (ord.getD i 0)), (10, .int .i64 b), (64, .slice B64 (rows.getD (ord.getD i 0).toNat []).length cp64), (65, .int .i64 (rows.getD (ord.getD i 0).toNat []).length), (66, .int .i64 s.1)]) (fun s W => s.1 ≤ (rows.getD (ord.getD i 0).toNat []).length ∧ (putsN (stN rows ord i).2 (rows.getD (ord.getD i 0).toNat []) b (ord.getD i 0) s.1).length ≤ (stN rows ord i).2.length + M ∧ Holds w [Row (fInt .i64) 3 (.slice s.2.1 (putsN (stN rows ord i).2 (rows.getD (ord.getD i 0).toNat []) b (ord.getD i 0) s.1).length s.2.2) (putsN (stN rows ord i).2 (rows.getD (ord.getD i 0).toNat []) b (ord.getD i 0) s.1), Row (fInt .i64) 3 (.slice A32 rows.length rows.length) ((stN rows ord i).1.set (ord.getD i 0).toNat b), Row (fInt .i64) 3 (.slice A15 rows.length rows.length) ord, Blk b6 39 [.slice A15 rows.length rows.length], Blk b2 23 [.slice A rows.length ca]] W) (fun s => (rows.getD (ord.getD i 0).toNat []).length - s.1) (0, A5, c5) (sc rfl (sc rfl (sc rfl (sc rfl (sc rfl (sc rfl (sc rfl (sc rfl (sc rfl (sc rfl (sc rfl (sc rfl (sn _))))))))))))) ⟨Nat.zero_le _, Nat.le_add_right _ _, H19.pm (by repeat constructor)⟩ ?_
        rintro ⟨j, A6, c6⟩ W3 ⟨hj, hpl, H⟩
        dsimp only at hj hpl H ⊢
        refine wc_seq ?_
        refine wc_region ?_
        refine wl_v rfl rfl rfl (v_lss rfl rfl) ?_
        refine wl_nil ?_
        refine wc_seq ?_
        refine wc_cond rfl (fun c3 => ?_) (fun c3 => ?_)
        · have c3p := of_decide_eq_true c3
          have hkj := hM _ (getD_mem hSn) ((rows.getD (ord.getD i 0).toNat []).getD j 0) (getD_mem (by omega))
          refine wc_skip ?_
          refine wc_seq ?_
          refine wc_block ?_
          refine wc_seq ?_
          refine wc_region ?_
          refine wl_v rfl rfl rfl (v_idx Try.underlying39 sz3 hr64.ad rfl rfl (by omega) (by omega)) ?_
          refine wl_v rfl rfl rfl (v_load one3 rfl (H.cell (hr64.at1N (i := j) (by omega)))) ?_
          refine wl_v rfl rfl rfl (v_assign rfl) ?_
          refine wl_nil ?_
          refine wc_seq ?_
          refine wc_block ?_
          refine wc_loop (σ := Nat × Option Addr × Nat) (fun s => [(1, .int .i64 least), (2, .pointer (some ⟨b2, 0, none⟩)), (4, .slice A32 rows.length rows.length), (5, .slice s.2.1 ((padN (putsN (stN rows ord i).2 (rows.getD (ord.getD i 0).toNat []) b (ord.getD i 0) j) s.1)).length s.2.2), (33, .slice A15 rows.length rows.length), (34, .int .i64 rows.length), (35, .int .i64 i), (9, .int .i64 (ord.getD i 0)), (10, .int .i64 b), (12, .int .i64 ((rows.getD (ord.getD i 0).toNat []).getD j 0)), (64, .slice B64 (rows.getD (ord.getD i 0).toNat []).length cp64), (65, .int .i64 (rows.getD (ord.getD i 0).toNat []).length), (66, .int .i64 j)]) (fun s W => (s.1 = 0 ∨ (putsN (stN rows ord i).2 (rows.getD (ord.getD i 0).toNat []) b (ord.getD i 0) j).length + s.1 ≤ ((b : Int) + (rows.getD (ord.getD i 0).toNat []).getD j 0).toNat + 1) ∧ Holds w [Row (fInt .i64) 3 (.slice s.2.1 ((padN (putsN (stN rows ord i).2 (rows.getD (ord.getD i 0).toNat []) b (ord.getD i 0) j) s.1)).length s.2.2) ((padN (putsN (stN rows ord i).2 (rows.getD (ord.getD i 0).toNat []) b (ord.getD i 0) j) s.1)), Row (fInt .i64) 3 (.slice A32 rows.length rows.length) ((stN rows ord i).1.set (ord.getD i 0).toNat b), Row (fInt .i64) 3 (.slice A15 rows.length rows.length) ord, Blk b6 39 [.slice A15 rows.length rows.length], Blk b2 23 [.slice A rows.length ca]] W) (fun s => ((b : Int) + (rows.getD (ord.getD i 0).toNat []).getD j 0).toNat + 1 - ((putsN (stN rows ord i).2 (rows.getD (ord.getD i 0).toNat []) b (ord.getD i 0) j).length + s.1)) (0, A6, c6) (sc rfl (sc rfl (sc rfl (sc rfl (sc rfl (sc rfl (sc rfl (sc rfl (sc rfl (sc rfl (sc rfl (sc rfl (sc rfl (sn _)))))))))))))) ⟨.inl rfl, H.pm (by repeat constructor)⟩ ?_
          rintro ⟨q, A7, c7⟩ W4 ⟨hq, H⟩
          dsimp only at hq H ⊢
          have hql : ((padN (putsN (stN rows ord i).2 (rows.getD (ord.getD i 0).toNat []) b (ord.getD i 0) j) q)).length = (putsN (stN rows ord i).2 (rows.getD (ord.getD i 0).toNat []) b (ord.getD i 0) j).length + q := padN_len _ _
          refine wc_seq ?_
          refine wc_seq ?_
          refine wc_region ?_
          refine wl_v rfl rfl rfl (v_move rfl) ?_
          refine wl_v rfl rfl rfl (v_len Try.underlying39 rfl) ?_
          refine wl_v rfl rfl rfl (v_move rfl) ?_
          refine wl_v rfl rfl rfl (v_move rfl) ?_
          refine wl_v rfl rfl rfl (v_addi rfl rfl (by omega)) ?_
          refine wl_v rfl rfl rfl (v_leq rfl rfl) ?_
          refine wl_nil ?_
          refine wc_cond rfl (fun c4 => ?_) (fun c4 => ?_)
          · have c4p := of_decide_eq_true c4
            refine wc_skip ?_
            refine wc_block ?_
            refine wc_region ?_
            refine wl_v rfl rfl rfl (v_move rfl) ?_
            refine wl_slit (v := .int .i64 0) (z := [.int .i64 0]) (cs := [.int .i64 (-1)]) (sz := 1) H rfl Try.underlying39 sz3 zv3 (by decide) (by decide) (by kernel_rfl) rfl (by repeat constructor) ?_
            intro b77 w20 hb77 H20 hs20
            refine wl_app1 (f := fInt .i64) (xs := (padN (putsN (stN rows ord i).2 (rows.getD (ord.getD i 0).toNat []) b (ord.getD i 0) j) q)) (y' := -1) H20 (fun v' => (by repeat constructor)) (by repeat constructor) rfl Try.underlying39 info3 rfl (by decide) rfl rfl rfl (by omega) (by decide) ?_
            intro A78 c78 w21 H21 hs21
            refine wl_v rfl rfl rfl (v_assign rfl) ?_
            refine wl_nil ?_
            exact ⟨(q + 1, A78, c78), (sc rfl (sc rfl (sc rfl (sc rfl (sc rfl (sc rfl (sc rfl (sc rfl (sc rfl (sc rfl (sc rfl (sc rfl (sc rfl (sn _)))))))))))))), ⟨.inr (by dsimp only; omega), H21.pm (by repeat constructor)⟩, by dsimp only; omega⟩
          · have c4p := of_decide_eq_false c4
            have hrowc := H.rrd (f := fInt .i64) (e := 3) (A := A7) (xs := (padN (putsN (stN rows ord i).2 (rows.getD (ord.getD i 0).toNat []) b (ord.getD i 0) j) q)) (by repeat constructor)
            have hradc : 0 < ((padN (putsN (stN rows ord i).2 (rows.getD (ord.getD i 0).toNat []) b (ord.getD i 0) j) q)).length → A7 = some (adr A7) := fun h => hrowc.ad h
            refine wc_exit ?_
            refine wc_region ?_
            refine wl_v rfl rfl rfl (v_move rfl) ?_
            refine wl_v rfl rfl rfl (v_move rfl) ?_
            refine wl_v rfl rfl rfl (v_move rfl) ?_
            refine wl_v rfl rfl rfl (v_addi rfl rfl (by omega)) ?_
            refine wl_v rfl rfl rfl (v_move rfl) ?_
            refine wl_v rfl rfl rfl (v_idx Try.underlying39 sz3 hradc rfl rfl (by omega) (by omega)) ?_
            refine wl_storeR (f := fInt .i64) (xs := (padN (putsN (stN rows ord i).2 (rows.getD (ord.getD i 0).toNat []) b (ord.getD i 0) j) q)) (i := (b : Int) + (rows.getD (ord.getD i 0).toNat []).getD j 0) (x' := (ord.getD i 0)) H (by repeat constructor) sz3 rfl rfl rfl (by omega) (by omega) ?_
            intro w22 H22
            refine wl_nil ?_
            refine wc_region ?_
            refine wl_v rfl rfl rfl (v_addi rfl rfl (by omega)) ?_
            refine wl_v rfl rfl rfl (v_move rfl) ?_
            refine wl_nil ?_
            have hp := pad_is (C := (putsN (stN rows ord i).2 (rows.getD (ord.getD i 0).toNat []) b (ord.getD i 0) j)) (q := q) (n := ((b : Int) + (rows.getD (ord.getD i 0).toNat []).getD j 0).toNat + 1) (by omega) (by omega)
            have hpe : (padN (putsN (stN rows ord i).2 (rows.getD (ord.getD i 0).toNat []) b (ord.getD i 0) j) q).set ((b : Int) + (rows.getD (ord.getD i 0).toNat []).getD j 0).toNat (ord.getD i 0) = putsN (stN rows ord i).2 (rows.getD (ord.getD i 0).toNat []) b (ord.getD i 0) (j + 1) := by rw [putsN_succ (by omega), putAt, hp]
            have hll : (putsN (stN rows ord i).2 (rows.getD (ord.getD i 0).toNat []) b (ord.getD i 0) (j + 1)).length = ((padN (putsN (stN rows ord i).2 (rows.getD (ord.getD i 0).toNat []) b (ord.getD i 0) j) q)).length := by rw [← hpe, List.length_set]
            rw [← len_set (padN (putsN (stN rows ord i).2 (rows.getD (ord.getD i 0).toNat []) b (ord.getD i 0) j) q) ((b : Int) + (rows.getD (ord.getD i 0).toNat []).getD j 0).toNat (ord.getD i 0), hpe] at H22
            exact ⟨(j + 1, A7, c7), by rw [hll]; exact (sc rfl (sc rfl (sc rfl (sc rfl (sc rfl (sc rfl (sc rfl (sc rfl (sc rfl (sc rfl (sc rfl (sc rfl (sn _))))))))))))), ⟨by dsimp only; omega, by dsimp only; rw [hll]; omega, H22.pm (by repeat constructor)⟩, by dsimp only; omega⟩
        · have c3p := of_decide_eq_false c3
          refine wc_exit ?_
          refine wc_region ?_
          refine wl_v rfl rfl rfl (v_addi rfl rfl (by omega)) ?_
          refine wl_v rfl rfl rfl (v_move rfl) ?_
          refine wl_nil ?_
          exact ⟨(i + 1, A6, c6), by rw [stN_succ (by omega) hbf]; rw [take_done c3p]; exact (sc rfl (sc rfl (sc rfl (sc rfl (sc rfl (sc rfl (sc rfl (sn _)))))))), ⟨by dsimp only; omega, by rw [stN_succ (by omega) hbf]; dsimp only; rw [take_done c3p, Nat.succ_mul]; omega, by rw [stN_succ (by omega) hbf]; rw [take_done c3p]; exact H.pm (by repeat constructor)⟩, by dsimp only; omega⟩
    · have c1p := of_decide_eq_false c1
      have hio : i = ord.length := by omega
      subst hio
      refine wc_exit ?_
      refine wc_seq ?_
      refine wc_block ?_
      refine wc_loop (σ := Nat × Option Addr × Nat) (fun s => [(1, .int .i64 least), (2, .pointer (some ⟨b2, 0, none⟩)), (4, .slice A32 rows.length rows.length), (5, .slice s.2.1 (padN (stN rows ord ord.length).2 s.1).length s.2.2)]) (fun s W => (s.1 = 0 ∨ ((stN rows ord ord.length).2.length : Int) + s.1 ≤ least) ∧ Holds w [Row (fInt .i64) 3 (.slice s.2.1 (padN (stN rows ord ord.length).2 s.1).length s.2.2) (padN (stN rows ord ord.length).2 s.1), Row (fInt .i64) 3 (.slice A32 rows.length rows.length) ((stN rows ord ord.length).1)] W) (fun s => least.toNat - ((stN rows ord ord.length).2.length + s.1)) (0, A5, c5) (sc rfl (sc rfl (sc rfl (sc rfl (sn _))))) ⟨.inl rfl, H.pm (by repeat constructor)⟩ ?_
      rintro ⟨q, A8, c8⟩ W5 ⟨hq, H⟩
      dsimp only at hq H ⊢
      have hql : (padN (stN rows ord ord.length).2 q).length = (stN rows ord ord.length).2.length + q := padN_len _ _
      refine wc_seq ?_
      refine wc_seq ?_
      refine wc_region ?_
      refine wl_v rfl rfl rfl (v_move rfl) ?_
      refine wl_v rfl rfl rfl (v_len Try.underlying39 rfl) ?_
      refine wl_v rfl rfl rfl (v_move rfl) ?_
      refine wl_v rfl rfl rfl (v_lss rfl rfl) ?_
      refine wl_nil ?_
      refine wc_cond rfl (fun c5 => ?_) (fun c5 => ?_)
      · have c5p := of_decide_eq_true c5
        refine wc_skip ?_
        refine wc_block ?_
        refine wc_region ?_
        refine wl_v rfl rfl rfl (v_move rfl) ?_
        refine wl_slit (v := .int .i64 0) (z := [.int .i64 0]) (cs := [.int .i64 (-1)]) (sz := 1) H rfl Try.underlying39 sz3 zv3 (by decide) (by decide) (by kernel_rfl) rfl (by repeat constructor) ?_
        intro b92 w23 hb92 H23 hs23
        refine wl_app1 (f := fInt .i64) (xs := padN (stN rows ord ord.length).2 q) (y' := -1) H23 (fun v' => (by repeat constructor)) (by repeat constructor) rfl Try.underlying39 info3 rfl (by decide) rfl rfl rfl (by omega) (by decide) ?_
        intro A93 c93 w24 H24 hs24
        refine wl_v rfl rfl rfl (v_assign rfl) ?_
        refine wl_nil ?_
        exact ⟨(q + 1, A93, c93), (sc rfl (sc rfl (sc rfl (sc rfl (sn _))))), ⟨.inr (by dsimp only; omega), H24.pm (by repeat constructor)⟩, by dsimp only; omega⟩
      · have c5p := of_decide_eq_false c5
        refine wc_exit ?_
        refine wc_seq ?_
        refine wc_region ?_
        refine wl_v rfl rfl rfl (v_move rfl) ?_
        refine wl_v rfl rfl rfl (v_move rfl) ?_
        refine wl_v rfl rfl rfl (v_assign rfl) ?_
        refine wl_v rfl rfl rfl (v_assign rfl) ?_
        refine wl_nil ?_
        refine wc_ret ?_
        have hp := pad_is (C := (stN rows ord ord.length).2) (q := q) (n := least.toNat) (by omega) (by omega)
        have e1 : (laidF rows ord least).2 = padN (stN rows ord ord.length).2 q := hp.symm
        have e2 : (laidF rows ord least).1 = (stN rows ord ord.length).1 := rfl
        have e3 := stN_len rows ord ord.length
        rw [e1, e2, e3]
        exact ⟨_, res2 rfl rfl rfl, _, _, _, _, rfl, H.pm (by repeat constructor)⟩
end Go.Proofs.Ytkpehkadammppaa.LaidW
