/- How table.laid lays rows. What table.Pack makes. Numbers, seven bits a byte: plain; bit operations and divisions. A table's bytes: plain. -/
import Derived.Test.YtkpehkadammppaaProg
import Derived.Test.YtkpehkadammppaaK03
import Derived.Test.YtkpehkadammppaaK04
import Derived.Laws.BitsLemmas
import Derived.Test.YtkpehkadammppaaK02
set_option linter.unusedVariables false
set_option linter.unusedSimpArgs false
/-! How table.laid lays rows. -/
namespace Go.Proofs.Ytkpehkadammppaa.LaidW
open Go Go.RowKit Go.Proofs.YtkpehkadammppaaFx Go.Proofs.Ytkpehkadammppaa.Free
theorem en56 : Enters Try.prog 56 := enters Try.func56 (by kernel_rfl) rfl
theorem en58 : Enters Try.prog 58 := enters Try.func58 (by kernel_rfl) rfl
theorem info3 : (Try.prog.info? 3).map (fun i => (i.zero, i.size, i.bytes)) = some (some (.int .i64 0), 1, 8) := by kernel_rfl
theorem one23 : One Try.prog 23 := one_of Try.underlying23 rfl (by kernel_rfl)
theorem one3 : One Try.prog 3 := one_of Try.underlying3 rfl (by kernel_rfl)
theorem one39 : One Try.prog 39 := one_of Try.underlying39 rfl (by kernel_rfl)
theorem sz3 : ∀ W, (sizeOf 3).run Try.prog W = .ok 1 W := size_of (by kernel_rfl)
theorem sz39 : ∀ W, (sizeOf 39).run Try.prog W = .ok 1 W := size_of (by kernel_rfl)
theorem zv3 : ∀ W, (zeroValue 3).run Try.prog W = .ok (.int .i64 0) W := zero_of (by kernel_rfl)
theorem zv39 : ∀ W, (zeroValue 39).run Try.prog W = .ok (.slice none 0 0) W := zero_of (by kernel_rfl)

set_option maxRecDepth 100000 in
theorem laid_calls {A : Option Addr} {ca : Nat} {rows : List (List Int)} {least : Int} {w : World} {M : Nat} (ord : List Int) (hR : Rd (kInt .i64).sl w A rows) (hM : ∀ r ∈ rows, ∀ k ∈ r, 0 ≤ k ∧ k < M) (hW : ∀ r ∈ rows, r.length ≤ 1099511627776) (hn : rows.length * M ≤ 1099511627776) (hn2 : rows.length ≤ 1099511627776) (hM2 : M ≤ 1099511627776) (hl : least ≤ 1099511627776)
    (hol : ord.length = rows.length) (hord : ∀ x ∈ ord, 0 ≤ x ∧ x < rows.length)
    (hsort : ∀ (W : World) (A15 : Option Addr) (b2 b6 : Nat), Holds w [Row (fInt .i64) 3 (.slice A15 rows.length rows.length) (iota rows.length), Blk b6 39 [.slice A15 rows.length rows.length], Blk b2 23 [.slice A rows.length ca]] W →
      Calls Try.prog 56 #[.iface 39 (.slice A15 rows.length rows.length), .func (.func 57) #[] #[.pointer (some ⟨b2, 0, none⟩), .pointer (some ⟨b6, 0, none⟩)]] W fun e w' => ∃ v, e = .returned v ∧ v = .tuple #[] ∧ Holds w [Row (fInt .i64) 3 (.slice A15 rows.length rows.length) ord, Blk b6 39 [.slice A15 rows.length rows.length], Blk b2 23 [.slice A rows.length ca]] w') :
    Calls Try.prog 41 #[.slice A rows.length ca, .int .i64 least] w fun e w' => ∃ v, e = .returned v ∧ ∃ A1 c1 A2 c2, v = .tuple #[.slice A1 (laidF rows ord least).1.length c1, .slice A2 (laidF rows ord least).2.length c2] ∧ Holds w [Row (fInt .i64) 3 (.slice A1 (laidF rows ord least).1.length c1) (laidF rows ord least).1, Row (fInt .i64) 3 (.slice A2 (laidF rows ord least).2.length c2) (laidF rows ord least).2] w' := by
  refine calls_of Try.func41 rfl Try.ntmps41 rfl ?_
  have H := Holds.start w
  refine wc_seq ?_
  refine wc_region ?_
  refine wl_box (cs := [_]) H rfl rfl rfl ?_
  intro b2 w1 hb2 H2
  refine wl_v rfl rfl rfl (v_assign rfl) ?_
  refine wl_v rfl rfl rfl (v_assign rfl) ?_
  refine wl_nil ?_
  refine wc_seq ?_
  refine wc_region ?_
  refine wl_v rfl rfl rfl (v_load one23 rfl (H2.at (by repeat constructor) rfl)) ?_
  refine wl_v rfl rfl rfl (v_len Try.underlying23 rfl) ?_
  refine wl_make (f := fInt .i64) (z' := 0) H2 rfl Try.underlying39 info3 rfl (by decide) rfl rfl (by omega) (by omega) (by decide) ?_
  intro A15 w3 H3 hs3
  rw [Int.toNat_natCast] at H3 ⊢
  refine wl_alloc (cs := [.slice none 0 0]) H3 rfl zv39 rfl ?_
  intro b6 w4 hb6 H5
  refine wl_store (vs := [_]) H5 (by repeat constructor) sz39 rfl rfl rfl rfl rfl (by repeat constructor) ?_
  intro w6 H7 hw6
  refine wl_nil ?_
  refine wc_seq ?_
  refine wc_seq ?_
  refine wc_region ?_
  refine wl_v rfl rfl rfl (v_load one39 rfl (H7.at (by repeat constructor) rfl)) ?_
  refine wl_v rfl rfl rfl (v_len Try.underlying39 rfl) ?_
  refine wl_v rfl rfl rfl (v_move rfl) ?_
  refine wl_nil ?_
  refine wc_block ?_
  refine wc_loop (σ := Nat) (fun s => [(1, .int .i64 least), (2, .pointer (some ⟨b2, 0, none⟩)), (4, .slice none 0 0), (5, .slice none 0 0), (6, .pointer (some ⟨b6, 0, none⟩)), (17, .int .i64 rows.length), (18, .int .i64 s)]) (fun s W => s ≤ rows.length ∧ Holds w [Row (fInt .i64) 3 (.slice A15 rows.length rows.length) (fillN rows.length s), Blk b6 39 [.slice A15 rows.length rows.length], Blk b2 23 [.slice A rows.length ca]] W) (fun s => rows.length - s) 0 (sc rfl (sc rfl (sc rfl (sc rfl (sc rfl (sc rfl (sc rfl (sn _)))))))) ⟨Nat.zero_le _, H7.pm (by repeat constructor)⟩ ?_
  rintro s W0 ⟨hs, H⟩
  refine wc_seq ?_
  refine wc_region ?_
  refine wl_v rfl rfl rfl (v_lss rfl rfl) ?_
  refine wl_nil ?_
  refine wc_seq ?_
  refine wc_cond rfl (fun c0 => ?_) (fun c0 => ?_)
  · have c0p := of_decide_eq_true c0
    have hfl := fillN_len (n := rows.length) (s := s) (by omega)
    have hrow0 := H.rrd (f := fInt .i64) (e := 3) (A := A15) (xs := fillN rows.length s) (by repeat constructor)
    have hrad0 : 0 < rows.length → A15 = some (adr A15) := fun h => hrow0.ad (by omega)
    refine wc_skip ?_
    refine wc_seq ?_
    refine wc_block ?_
    refine wc_seq ?_
    refine wc_region ?_
    refine wl_v rfl rfl rfl (v_move rfl) ?_
    refine wl_v rfl rfl rfl (v_assign rfl) ?_
    refine wl_nil ?_
    refine wc_region ?_
    refine wl_v rfl rfl rfl (v_load one39 rfl (H.at (by repeat constructor) rfl)) ?_
    refine wl_v rfl rfl rfl (v_move rfl) ?_
    refine wl_v rfl rfl rfl (v_move rfl) ?_
    refine wl_v rfl rfl rfl (v_idx Try.underlying39 sz3 hrad0 rfl rfl (by omega) (by omega)) ?_
    refine wl_storeR (f := fInt .i64) (xs := fillN rows.length s) (i := (s : Int)) (x' := (s : Int)) H (by repeat constructor) sz3 rfl rfl rfl (by omega) (by omega) ?_
    intro w8 H8
    refine wl_nil ?_
    refine wc_region ?_
    refine wl_v rfl rfl rfl (v_addi rfl rfl (by omega)) ?_
    refine wl_v rfl rfl rfl (v_move rfl) ?_
    refine wl_nil ?_
    exact ⟨s + 1, (sc rfl (sc rfl (sc rfl (sc rfl (sc rfl (sc rfl (sc rfl (sn _)))))))), ⟨by omega, by rw [← fillN_next (by omega)]; exact H8.pm (by repeat constructor)⟩, by omega⟩
  · have c0p := of_decide_eq_false c0
    rw [fillN_all hs c0p] at H
    refine wc_exit ?_
    refine wc_seq ?_
    refine wc_region ?_
    refine wl_v rfl rfl rfl (v_load one39 rfl (H.at (by repeat constructor) rfl)) ?_
    refine wl_v rfl rfl rfl (v_iface (i := 0) (by kernel_rfl) rfl) ?_
    refine wl_v rfl rfl rfl (v_fn rfl rfl) ?_
    refine wl_call en56 rfl rfl (hsort _ _ _ _ (H.pm (by repeat constructor))) ?_
    rintro _ w10 ⟨rfl, Hc⟩
    have H11 := Hc
    refine wl_nil ?_
    refine wc_seq ?_
    refine wc_region ?_
    refine wl_v rfl rfl rfl (v_load one23 rfl (H11.at (by repeat constructor) rfl)) ?_
    refine wl_v rfl rfl rfl (v_len Try.underlying23 rfl) ?_
    refine wl_make (f := fInt .i64) (z' := 0) H11 rfl Try.underlying39 info3 rfl (by decide) rfl rfl (by omega) (by omega) (by decide) ?_
    intro A32 w12 H12 hs12
    rw [Int.toNat_natCast] at H12 ⊢
    refine wl_v rfl rfl rfl (v_assign rfl) ?_
    refine wl_nil ?_
    refine wc_seq ?_
    refine wc_seq ?_
    refine wc_region ?_
    refine wl_v rfl rfl rfl (v_load one39 rfl (H12.at (by repeat constructor) rfl)) ?_
    refine wl_v rfl rfl rfl (v_len Try.underlying39 rfl) ?_
    refine wl_v rfl rfl rfl (v_move rfl) ?_
    refine wl_nil ?_
    refine wc_block ?_
    refine wc_loop (σ := Nat × Option Addr × Nat) (fun s => [(1, .int .i64 least), (2, .pointer (some ⟨b2, 0, none⟩)), (4, .slice A32 rows.length rows.length), (5, .slice s.2.1 ((stN rows ord s.1).2).length s.2.2), (33, .slice A15 rows.length rows.length), (34, .int .i64 rows.length), (35, .int .i64 s.1)]) (fun s W => s.1 ≤ rows.length ∧ (stN rows ord s.1).2.length ≤ s.1 * M ∧ Holds w [Row (fInt .i64) 3 (.slice s.2.1 ((stN rows ord s.1).2).length s.2.2) ((stN rows ord s.1).2), Row (fInt .i64) 3 (.slice A32 rows.length rows.length) ((stN rows ord s.1).1), Row (fInt .i64) 3 (.slice A15 rows.length rows.length) ord, Blk b6 39 [.slice A15 rows.length rows.length], Blk b2 23 [.slice A rows.length ca]] W) (fun s => rows.length - s.1) (0, none, 0) (sc rfl (sc rfl (sc rfl (sc rfl (sc rfl (sc rfl (sc rfl (sn _)))))))) ⟨Nat.zero_le _, Nat.zero_le _, (H12.nilrow 3 1).pm (by repeat constructor)⟩ ?_
    rintro ⟨i, A5, c5⟩ W1 ⟨hi, hcl, H⟩
    dsimp only at hi hcl H ⊢
    refine wc_seq ?_
    refine wc_region ?_
    refine wl_v rfl rfl rfl (v_lss rfl rfl) ?_
    refine wl_nil ?_
    refine wc_seq ?_
    refine wc_cond rfl (fun c1 => ?_) (fun c1 => ?_)
    · have c1p := of_decide_eq_true c1
      have hrow1 := H.rrd (f := fInt .i64) (e := 3) (A := A15) (xs := ord) (by repeat constructor)
      have hrad1 : 0 < rows.length → A15 = some (adr A15) := fun h => hrow1.ad (by omega)
      have hS := hord (ord.getD i 0) (getD_mem (by omega))
      have hSn : (ord.getD i 0).toNat < rows.length := by omega
      have hrl := hW (rows.getD (ord.getD i 0).toNat []) (getD_mem hSn)
      have hbl0 := stN_len rows ord i
      have hiM : i * M ≤ rows.length * M := Nat.mul_le_mul_right _ hi
      have hk0 : ∀ k ∈ (rows.getD (ord.getD i 0).toNat []), 0 ≤ k := fun k hk => (hM _ (getD_mem hSn) k hk).1
      have hrowb := H.rrd (f := fInt .i64) (e := 3) (A := A32) (xs := (stN rows ord i).1) (by repeat constructor)
      have hradb : 0 < rows.length → A32 = some (adr A32) := fun h => hrowb.ad (by omega)
      refine wc_skip ?_
      refine wc_seq ?_
      refine wc_block ?_
      refine wc_seq ?_
      refine wc_region ?_
      refine wl_v rfl rfl rfl (v_idx Try.underlying39 sz3 hrad1 rfl rfl (by omega) (by omega)) ?_
      refine wl_v rfl rfl rfl (v_load one3 rfl (hrow1.at1N (i := i) (by omega))) ?_
      refine wl_v rfl rfl rfl (v_assign rfl) ?_
      refine wl_nil ?_
      refine wc_seq ?_
      refine wc_region ?_
      refine wl_v rfl rfl rfl (v_assign rfl) ?_
      refine wl_nil ?_
      refine wc_seq ?_
      refine wc_block ?_
      refine wc_loop (σ := Nat) (fun s => [(1, .int .i64 least), (2, .pointer (some ⟨b2, 0, none⟩)), (4, .slice A32 rows.length rows.length), (5, .slice A5 ((stN rows ord i).2).length c5), (33, .slice A15 rows.length rows.length), (34, .int .i64 rows.length), (35, .int .i64 i), (9, .int .i64 (ord.getD i 0)), (10, .int .i64 s)]) (fun s W => s ≤ (stN rows ord i).2.length ∧ (∀ b', b' < s → freeB (stN rows ord i).2 (rows.getD (ord.getD i 0).toNat []) (b' : Int) = false) ∧ Holds w [Row (fInt .i64) 3 (.slice A5 ((stN rows ord i).2).length c5) ((stN rows ord i).2), Row (fInt .i64) 3 (.slice A32 rows.length rows.length) ((stN rows ord i).1), Row (fInt .i64) 3 (.slice A15 rows.length rows.length) ord, Blk b6 39 [.slice A15 rows.length rows.length], Blk b2 23 [.slice A rows.length ca]] W) (fun s => (stN rows ord i).2.length + 1 - s) 0 (sc rfl (sc rfl (sc rfl (sc rfl (sc rfl (sc rfl (sc rfl (sc rfl (sc rfl (sn _)))))))))) ⟨Nat.zero_le _, upto_zero, H.pm (by repeat constructor)⟩ ?_
      rintro b W2 ⟨hb, hlow, H⟩
      refine wc_seq ?_
      refine wc_seq ?_
      refine wc_region ?_
      refine wl_v rfl rfl rfl (v_load one23 rfl (H.at (by repeat constructor) rfl)) ?_
      refine wl_v rfl rfl rfl (v_move rfl) ?_
      refine wl_v rfl rfl rfl (v_idx Try.underlying23 sz39 hR.ad rfl rfl (by omega) (by omega)) ?_
      obtain ⟨B42, cp42, hc42, hl42, hr42⟩ := hR.atSl (i := (ord.getD i 0)) (by omega) (by omega)
      refine wl_v rfl rfl rfl (v_load one39 rfl (H.cell (hc42))) ?_
      refine wl_v rfl rfl rfl (v_len Try.underlying39 rfl) ?_
      refine wl_v rfl rfl rfl (v_gtr rfl rfl) ?_
      refine wl_v rfl rfl rfl (v_move rfl) ?_
      refine wl_guard rfl rfl rfl (fun g45 => ?_) (fun g45 => ?_)
      · have g45p := of_decide_eq_true g45
        refine wl_v rfl rfl rfl (v_move rfl) ?_
        refine wl_on' rfl rfl g45 ?_
        refine wl_v rfl rfl rfl (v_load one23 rfl (H.at (by repeat constructor) rfl)) ?_
        refine wl_on' rfl rfl g45 ?_
        refine wl_v rfl rfl rfl (v_move rfl) ?_
        refine wl_on' rfl rfl g45 ?_
        refine wl_v rfl rfl rfl (v_idx Try.underlying23 sz39 hR.ad rfl rfl (by omega) (by omega)) ?_
        refine wl_on' rfl rfl g45 ?_
        obtain ⟨B50, cp50, hc50, hl50, hr50⟩ := hR.atSl (i := (ord.getD i 0)) (by omega) (by omega)
        refine wl_v rfl rfl rfl (v_load one39 rfl (H.cell (hc50))) ?_
        refine wl_on' rfl rfl g45 ?_
        refine wl_v rfl rfl rfl (v_move rfl) ?_
        refine wl_on' rfl rfl g45 ?_
        refine wl_call en58 rfl rfl (free_calls (H.rrd (f := fInt .i64) (A := A5) (xs := (stN rows ord i).2) (by repeat constructor)) (hr50.below H.old) (by unfold maxLen; omega) (by unfold maxLen; omega) (by omega) (fun k hk => by have := hM _ (getD_mem hSn) k hk; omega)) ?_
        rintro _ w13 ⟨rfl, Hc⟩
        have H14 := H.call Hc
        refine wl_on' rfl rfl g45 ?_
        refine wl_v rfl rfl rfl (v_not rfl) ?_
        refine wl_v rfl rfl rfl (v_pick_t rfl g45 rfl) ?_
        refine wl_nil ?_
        refine wc_cond rfl (fun c2 => ?_) (fun c2 => ?_)
        · have c2p := of_n_t c2
          refine wc_skip ?_
          refine wc_block ?_
          refine wc_region ?_
          refine wl_v rfl rfl rfl (v_move rfl) ?_
          refine wl_v rfl rfl rfl (v_addi rfl rfl (by omega)) ?_
          refine wl_v rfl rfl rfl (v_assign rfl) ?_
          refine wl_nil ?_
          have hbl : (b : Int) < (stN rows ord i).2.length := by
            rcases (by omega : (b : Int) < (stN rows ord i).2.length ∨ ((stN rows ord i).2.length : Int) ≤ b) with h | h
            · exact h
            · rw [freeB_end h hk0] at c2p; exact absurd c2p (by simp)
          exact ⟨b + 1, (sc rfl (sc rfl (sc rfl (sc rfl (sc rfl (sc rfl (sc rfl (sc rfl (sc rfl (sn _)))))))))), ⟨by omega, upto_succ hlow c2p, H14.pm (by repeat constructor)⟩, by omega⟩
        · have c2p := of_n_f c2
          have hbf := firstFree_is hlow c2p hb
          refine wc_exit ?_
          refine wc_seq ?_
          refine wc_region ?_
          refine wl_v rfl rfl rfl (v_move rfl) ?_
          refine wl_v rfl rfl rfl (v_move rfl) ?_
          refine wl_v rfl rfl rfl (v_move rfl) ?_
          refine wl_v rfl rfl rfl (v_idx Try.underlying39 sz3 hradb rfl rfl (by omega) (by omega)) ?_
          refine wl_storeR (f := fInt .i64) (xs := (stN rows ord i).1) (i := (ord.getD i 0)) (x' := (b : Int)) H14 (by repeat constructor) sz3 rfl rfl rfl (by omega) (by omega) ?_
          intro w15 H15
          refine wl_nil ?_
          refine wc_seq ?_
          refine wc_region ?_
          refine wl_v rfl rfl rfl (v_load one23 rfl (H15.at (by repeat constructor) rfl)) ?_
          refine wl_v rfl rfl rfl (v_move rfl) ?_
          refine wl_v rfl rfl rfl (v_idx Try.underlying23 sz39 hR.ad rfl rfl (by omega) (by omega)) ?_
          obtain ⟨B64, cp64, hc64, hl64, hr64⟩ := hR.atSl (i := (ord.getD i 0)) (by omega) (by omega)
          refine wl_v rfl rfl rfl (v_load one39 rfl (H15.cell (hc64))) ?_
          refine wl_v rfl rfl rfl (v_len Try.underlying39 rfl) ?_
          refine wl_v rfl rfl rfl (v_move rfl) ?_
          refine wl_nil ?_
          refine wc_block ?_
          refine wc_loop (σ := Nat × Option Addr × Nat) (fun s => [(1, .int .i64 least), (2, .pointer (some ⟨b2, 0, none⟩)), (4, .slice A32 rows.length rows.length), (5, .slice s.2.1 (putsN (stN rows ord i).2 (rows.getD (ord.getD i 0).toNat []) b (ord.getD i 0) s.1).length s.2.2), (33, .slice A15 rows.length rows.length), (34, .int .i64 rows.length), (35, .int .i64 i), (9, .int .i64 (ord.getD i 0)), (10, .int .i64 b), (64, .slice B64 (rows.getD (ord.getD i 0).toNat []).length cp64), (65, .int .i64 (rows.getD (ord.getD i 0).toNat []).length), (66, .int .i64 s.1)]) (fun s W => s.1 ≤ (rows.getD (ord.getD i 0).toNat []).length ∧ (putsN (stN rows ord i).2 (rows.getD (ord.getD i 0).toNat []) b (ord.getD i 0) s.1).length ≤ (stN rows ord i).2.length + M ∧ Holds w [Row (fInt .i64) 3 (.slice s.2.1 (putsN (stN rows ord i).2 (rows.getD (ord.getD i 0).toNat []) b (ord.getD i 0) s.1).length s.2.2) (putsN (stN rows ord i).2 (rows.getD (ord.getD i 0).toNat []) b (ord.getD i 0) s.1), Row (fInt .i64) 3 (.slice A32 rows.length rows.length) ((stN rows ord i).1.set (ord.getD i 0).toNat b), Row (fInt .i64) 3 (.slice A15 rows.length rows.length) ord, Blk b6 39 [.slice A15 rows.length rows.length], Blk b2 23 [.slice A rows.length ca]] W) (fun s => (rows.getD (ord.getD i 0).toNat []).length - s.1) (0, A5, c5) (sc rfl (sc rfl (sc rfl (sc rfl (sc rfl (sc rfl (sc rfl (sc rfl (sc rfl (sc rfl (sc rfl (sc rfl (sn _))))))))))))) ⟨Nat.zero_le _, Nat.le_add_right _ _, H15.pm (by repeat constructor)⟩ ?_
          rintro ⟨j, A6, c6⟩ W3 ⟨hj, hpl, H⟩
          dsimp only at hj hpl H ⊢
          refine wc_seq ?_
          refine wc_region ?_
          refine wl_v rfl rfl rfl (v_lss rfl rfl) ?_
          refine wl_nil ?_
          refine wc_seq ?_
          refine wc_cond rfl (fun c3 => ?_) (fun c3 => ?_)
          · have c3p := of_decide_eq_true c3
            have hkj := hM _ (getD_mem hSn) ((rows.getD (ord.getD i 0).toNat []).getD j 0) (getD_mem (by omega))
            refine wc_skip ?_
            refine wc_seq ?_
            refine wc_block ?_
            refine wc_seq ?_
            refine wc_region ?_
            refine wl_v rfl rfl rfl (v_idx Try.underlying39 sz3 hr64.ad rfl rfl (by omega) (by omega)) ?_
            refine wl_v rfl rfl rfl (v_load one3 rfl (H.cell (hr64.at1N (i := j) (by omega)))) ?_
            refine wl_v rfl rfl rfl (v_assign rfl) ?_
            refine wl_nil ?_
            refine wc_seq ?_
            refine wc_block ?_
            refine wc_loop (σ := Nat × Option Addr × Nat) (fun s => [(1, .int .i64 least), (2, .pointer (some ⟨b2, 0, none⟩)), (4, .slice A32 rows.length rows.length), (5, .slice s.2.1 ((padN (putsN (stN rows ord i).2 (rows.getD (ord.getD i 0).toNat []) b (ord.getD i 0) j) s.1)).length s.2.2), (33, .slice A15 rows.length rows.length), (34, .int .i64 rows.length), (35, .int .i64 i), (9, .int .i64 (ord.getD i 0)), (10, .int .i64 b), (12, .int .i64 ((rows.getD (ord.getD i 0).toNat []).getD j 0)), (64, .slice B64 (rows.getD (ord.getD i 0).toNat []).length cp64), (65, .int .i64 (rows.getD (ord.getD i 0).toNat []).length), (66, .int .i64 j)]) (fun s W => (s.1 = 0 ∨ (putsN (stN rows ord i).2 (rows.getD (ord.getD i 0).toNat []) b (ord.getD i 0) j).length + s.1 ≤ ((b : Int) + (rows.getD (ord.getD i 0).toNat []).getD j 0).toNat + 1) ∧ Holds w [Row (fInt .i64) 3 (.slice s.2.1 ((padN (putsN (stN rows ord i).2 (rows.getD (ord.getD i 0).toNat []) b (ord.getD i 0) j) s.1)).length s.2.2) ((padN (putsN (stN rows ord i).2 (rows.getD (ord.getD i 0).toNat []) b (ord.getD i 0) j) s.1)), Row (fInt .i64) 3 (.slice A32 rows.length rows.length) ((stN rows ord i).1.set (ord.getD i 0).toNat b), Row (fInt .i64) 3 (.slice A15 rows.length rows.length) ord, Blk b6 39 [.slice A15 rows.length rows.length], Blk b2 23 [.slice A rows.length ca]] W) (fun s => ((b : Int) + (rows.getD (ord.getD i 0).toNat []).getD j 0).toNat + 1 - ((putsN (stN rows ord i).2 (rows.getD (ord.getD i 0).toNat []) b (ord.getD i 0) j).length + s.1)) (0, A6, c6) (sc rfl (sc rfl (sc rfl (sc rfl (sc rfl (sc rfl (sc rfl (sc rfl (sc rfl (sc rfl (sc rfl (sc rfl (sc rfl (sn _)))))))))))))) ⟨.inl rfl, H.pm (by repeat constructor)⟩ ?_
            rintro ⟨q, A7, c7⟩ W4 ⟨hq, H⟩
            dsimp only at hq H ⊢
            have hql : ((padN (putsN (stN rows ord i).2 (rows.getD (ord.getD i 0).toNat []) b (ord.getD i 0) j) q)).length = (putsN (stN rows ord i).2 (rows.getD (ord.getD i 0).toNat []) b (ord.getD i 0) j).length + q := padN_len _ _
            refine wc_seq ?_
            refine wc_seq ?_
            refine wc_region ?_
            refine wl_v rfl rfl rfl (v_move rfl) ?_
            refine wl_v rfl rfl rfl (v_len Try.underlying39 rfl) ?_
            refine wl_v rfl rfl rfl (v_move rfl) ?_
            refine wl_v rfl rfl rfl (v_move rfl) ?_
            refine wl_v rfl rfl rfl (v_addi rfl rfl (by omega)) ?_
            refine wl_v rfl rfl rfl (v_leq rfl rfl) ?_
            refine wl_nil ?_
            refine wc_cond rfl (fun c4 => ?_) (fun c4 => ?_)
            · have c4p := of_decide_eq_true c4
              refine wc_skip ?_
              refine wc_block ?_
              refine wc_region ?_
              refine wl_v rfl rfl rfl (v_move rfl) ?_
              refine wl_slit (v := .int .i64 0) (z := [.int .i64 0]) (cs := [.int .i64 (-1)]) (sz := 1) H rfl Try.underlying39 sz3 zv3 (by decide) (by decide) (by kernel_rfl) rfl (by repeat constructor) ?_
              intro b77 w16 hb77 H16 hs16
              refine wl_app1 (f := fInt .i64) (xs := (padN (putsN (stN rows ord i).2 (rows.getD (ord.getD i 0).toNat []) b (ord.getD i 0) j) q)) (y' := -1) H16 (fun v' => (by repeat constructor)) (by repeat constructor) rfl Try.underlying39 info3 rfl (by decide) rfl rfl rfl (by omega) (by decide) ?_
              intro A78 c78 w17 H17 hs17
              refine wl_v rfl rfl rfl (v_assign rfl) ?_
              refine wl_nil ?_
              exact ⟨(q + 1, A78, c78), (sc rfl (sc rfl (sc rfl (sc rfl (sc rfl (sc rfl (sc rfl (sc rfl (sc rfl (sc rfl (sc rfl (sc rfl (sc rfl (sn _)))))))))))))), ⟨.inr (by dsimp only; omega), H17.pm (by repeat constructor)⟩, by dsimp only; omega⟩
            · have c4p := of_decide_eq_false c4
              have hrowc := H.rrd (f := fInt .i64) (e := 3) (A := A7) (xs := (padN (putsN (stN rows ord i).2 (rows.getD (ord.getD i 0).toNat []) b (ord.getD i 0) j) q)) (by repeat constructor)
              have hradc : 0 < ((padN (putsN (stN rows ord i).2 (rows.getD (ord.getD i 0).toNat []) b (ord.getD i 0) j) q)).length → A7 = some (adr A7) := fun h => hrowc.ad h
              refine wc_exit ?_
              refine wc_region ?_
              refine wl_v rfl rfl rfl (v_move rfl) ?_
              refine wl_v rfl rfl rfl (v_move rfl) ?_
              refine wl_v rfl rfl rfl (v_move rfl) ?_
              refine wl_v rfl rfl rfl (v_addi rfl rfl (by omega)) ?_
              refine wl_v rfl rfl rfl (v_move rfl) ?_
              refine wl_v rfl rfl rfl (v_idx Try.underlying39 sz3 hradc rfl rfl (by omega) (by omega)) ?_
              refine wl_storeR (f := fInt .i64) (xs := (padN (putsN (stN rows ord i).2 (rows.getD (ord.getD i 0).toNat []) b (ord.getD i 0) j) q)) (i := (b : Int) + (rows.getD (ord.getD i 0).toNat []).getD j 0) (x' := (ord.getD i 0)) H (by repeat constructor) sz3 rfl rfl rfl (by omega) (by omega) ?_
              intro w18 H18
              refine wl_nil ?_
              refine wc_region ?_
              refine wl_v rfl rfl rfl (v_addi rfl rfl (by omega)) ?_
              refine wl_v rfl rfl rfl (v_move rfl) ?_
              refine wl_nil ?_
              have hp := pad_is (C := (putsN (stN rows ord i).2 (rows.getD (ord.getD i 0).toNat []) b (ord.getD i 0) j)) (q := q) (n := ((b : Int) + (rows.getD (ord.getD i 0).toNat []).getD j 0).toNat + 1) (by omega) (by omega)
              have hpe : (padN (putsN (stN rows ord i).2 (rows.getD (ord.getD i 0).toNat []) b (ord.getD i 0) j) q).set ((b : Int) + (rows.getD (ord.getD i 0).toNat []).getD j 0).toNat (ord.getD i 0) = putsN (stN rows ord i).2 (rows.getD (ord.getD i 0).toNat []) b (ord.getD i 0) (j + 1) := by rw [putsN_succ (by omega), putAt, hp]
              have hll : (putsN (stN rows ord i).2 (rows.getD (ord.getD i 0).toNat []) b (ord.getD i 0) (j + 1)).length = ((padN (putsN (stN rows ord i).2 (rows.getD (ord.getD i 0).toNat []) b (ord.getD i 0) j) q)).length := by rw [← hpe, List.length_set]
              rw [← len_set (padN (putsN (stN rows ord i).2 (rows.getD (ord.getD i 0).toNat []) b (ord.getD i 0) j) q) ((b : Int) + (rows.getD (ord.getD i 0).toNat []).getD j 0).toNat (ord.getD i 0), hpe] at H18
              exact ⟨(j + 1, A7, c7), by rw [hll]; exact (sc rfl (sc rfl (sc rfl (sc rfl (sc rfl (sc rfl (sc rfl (sc rfl (sc rfl (sc rfl (sc rfl (sc rfl (sn _))))))))))))), ⟨by dsimp only; omega, by dsimp only; rw [hll]; omega, H18.pm (by repeat constructor)⟩, by dsimp only; omega⟩
          · have c3p := of_decide_eq_false c3
            refine wc_exit ?_
            refine wc_region ?_
            refine wl_v rfl rfl rfl (v_addi rfl rfl (by omega)) ?_
            refine wl_v rfl rfl rfl (v_move rfl) ?_
            refine wl_nil ?_
            exact ⟨(i + 1, A6, c6), by rw [stN_succ (by omega) hbf]; rw [take_done c3p]; exact (sc rfl (sc rfl (sc rfl (sc rfl (sc rfl (sc rfl (sc rfl (sn _)))))))), ⟨by dsimp only; omega, by rw [stN_succ (by omega) hbf]; dsimp only; rw [take_done c3p, Nat.succ_mul]; omega, by rw [stN_succ (by omega) hbf]; rw [take_done c3p]; exact H.pm (by repeat constructor)⟩, by dsimp only; omega⟩
      · have g45p := of_decide_eq_false g45
        have hbf := firstFree_is hlow (by rw [List.eq_nil_of_length_eq_zero (l := (rows.getD (ord.getD i 0).toNat [])) (by omega)]; rfl) hb
        refine wl_off rfl rfl g45 rfl ?_
        refine wl_off rfl rfl g45 rfl ?_
        refine wl_off rfl rfl g45 rfl ?_
        refine wl_off rfl rfl g45 rfl ?_
        refine wl_off rfl rfl g45 rfl ?_
        refine wl_off rfl rfl g45 rfl ?_
        refine wl_off rfl rfl g45 rfl ?_
        refine wl_v rfl rfl rfl (v_pick_f rfl g45 rfl) ?_
        refine wl_nil ?_
        refine wc_cond_f rfl ?_
        refine wc_exit ?_
        refine wc_seq ?_
        refine wc_region ?_
        refine wl_v rfl rfl rfl (v_move rfl) ?_
        refine wl_v rfl rfl rfl (v_move rfl) ?_
        refine wl_v rfl rfl rfl (v_move rfl) ?_
        refine wl_v rfl rfl rfl (v_idx Try.underlying39 sz3 hradb rfl rfl (by omega) (by omega)) ?_
        refine wl_storeR (f := fInt .i64) (xs := (stN rows ord i).1) (i := (ord.getD i 0)) (x' := (b : Int)) H (by repeat constructor) sz3 rfl rfl rfl (by omega) (by omega) ?_
        intro w19 H19
        refine wl_nil ?_
        refine wc_seq ?_
        refine wc_region ?_
        refine wl_v rfl rfl rfl (v_load one23 rfl (H19.at (by repeat constructor) rfl)) ?_
        refine wl_v rfl rfl rfl (v_move rfl) ?_
        refine wl_v rfl rfl rfl (v_idx Try.underlying23 sz39 hR.ad rfl rfl (by omega) (by omega)) ?_
        obtain ⟨B64, cp64, hc64, hl64, hr64⟩ := hR.atSl (i := (ord.getD i 0)) (by omega) (by omega)
        refine wl_v rfl rfl rfl (v_load one39 rfl (H19.cell (hc64))) ?_
        refine wl_v rfl rfl rfl (v_len Try.underlying39 rfl) ?_
        refine wl_v rfl rfl rfl (v_move rfl) ?_
        refine wl_nil ?_
        refine wc_block ?_
        refine wc_loop (σ := Nat × Option Addr × Nat) (fun s => [(1, .int .i64 least), (2, .pointer (some ⟨b2, 0, none⟩)), (4, .slice A32 rows.length rows.length), (5, .slice s.2.1 (putsN (stN rows ord i).2 (rows.getD (ord.getD i 0).toNat []) b (ord.getD i 0) s.1).length s.2.2), (33, .slice A15 rows.length rows.length), (34, .int .i64 rows.length), (35, .int .i64 i), (9, .int .i64 (ord.getD i 0)), (10, .int .i64 b), (64, .slice B64 (rows.getD (ord.getD i 0).toNat []).length cp64), (65, .int .i64 (rows.getD (ord.getD i 0).toNat []).length), (66, .int .i64 s.1)]) (fun s W => s.1 ≤ (rows.getD (ord.getD i 0).toNat []).length ∧ (putsN (stN rows ord i).2 (rows.getD (ord.getD i 0).toNat []) b (ord.getD i 0) s.1).length ≤ (stN rows ord i).2.length + M ∧ Holds w [Row (fInt .i64) 3 (.slice s.2.1 (putsN (stN rows ord i).2 (rows.getD (ord.getD i 0).toNat []) b (ord.getD i 0) s.1).length s.2.2) (putsN (stN rows ord i).2 (rows.getD (ord.getD i 0).toNat []) b (ord.getD i 0) s.1), Row (fInt .i64) 3 (.slice A32 rows.length rows.length) ((stN rows ord i).1.set (ord.getD i 0).toNat b), Row (fInt .i64) 3 (.slice A15 rows.length rows.length) ord, Blk b6 39 [.slice A15 rows.length rows.length], Blk b2 23 [.slice A rows.length ca]] W) (fun s => (rows.getD (ord.getD i 0).toNat []).length - s.1) (0, A5, c5) (sc rfl (sc rfl (sc rfl (sc rfl (sc rfl (sc rfl (sc rfl (sc rfl (sc rfl (sc rfl (sc rfl (sc rfl (sn _))))))))))))) ⟨Nat.zero_le _, Nat.le_add_right _ _, H19.pm (by repeat constructor)⟩ ?_
        rintro ⟨j, A6, c6⟩ W3 ⟨hj, hpl, H⟩
        dsimp only at hj hpl H ⊢
        refine wc_seq ?_
        refine wc_region ?_
        refine wl_v rfl rfl rfl (v_lss rfl rfl) ?_
        refine wl_nil ?_
        refine wc_seq ?_
        refine wc_cond rfl (fun c3 => ?_) (fun c3 => ?_)
        · have c3p := of_decide_eq_true c3
          have hkj := hM _ (getD_mem hSn) ((rows.getD (ord.getD i 0).toNat []).getD j 0) (getD_mem (by omega))
          refine wc_skip ?_
          refine wc_seq ?_
          refine wc_block ?_
          refine wc_seq ?_
          refine wc_region ?_
          refine wl_v rfl rfl rfl (v_idx Try.underlying39 sz3 hr64.ad rfl rfl (by omega) (by omega)) ?_
          refine wl_v rfl rfl rfl (v_load one3 rfl (H.cell (hr64.at1N (i := j) (by omega)))) ?_
          refine wl_v rfl rfl rfl (v_assign rfl) ?_
          refine wl_nil ?_
          refine wc_seq ?_
          refine wc_block ?_
          refine wc_loop (σ := Nat × Option Addr × Nat) (fun s => [(1, .int .i64 least), (2, .pointer (some ⟨b2, 0, none⟩)), (4, .slice A32 rows.length rows.length), (5, .slice s.2.1 ((padN (putsN (stN rows ord i).2 (rows.getD (ord.getD i 0).toNat []) b (ord.getD i 0) j) s.1)).length s.2.2), (33, .slice A15 rows.length rows.length), (34, .int .i64 rows.length), (35, .int .i64 i), (9, .int .i64 (ord.getD i 0)), (10, .int .i64 b), (12, .int .i64 ((rows.getD (ord.getD i 0).toNat []).getD j 0)), (64, .slice B64 (rows.getD (ord.getD i 0).toNat []).length cp64), (65, .int .i64 (rows.getD (ord.getD i 0).toNat []).length), (66, .int .i64 j)]) (fun s W => (s.1 = 0 ∨ (putsN (stN rows ord i).2 (rows.getD (ord.getD i 0).toNat []) b (ord.getD i 0) j).length + s.1 ≤ ((b : Int) + (rows.getD (ord.getD i 0).toNat []).getD j 0).toNat + 1) ∧ Holds w [Row (fInt .i64) 3 (.slice s.2.1 ((padN (putsN (stN rows ord i).2 (rows.getD (ord.getD i 0).toNat []) b (ord.getD i 0) j) s.1)).length s.2.2) ((padN (putsN (stN rows ord i).2 (rows.getD (ord.getD i 0).toNat []) b (ord.getD i 0) j) s.1)), Row (fInt .i64) 3 (.slice A32 rows.length rows.length) ((stN rows ord i).1.set (ord.getD i 0).toNat b), Row (fInt .i64) 3 (.slice A15 rows.length rows.length) ord, Blk b6 39 [.slice A15 rows.length rows.length], Blk b2 23 [.slice A rows.length ca]] W) (fun s => ((b : Int) + (rows.getD (ord.getD i 0).toNat []).getD j 0).toNat + 1 - ((putsN (stN rows ord i).2 (rows.getD (ord.getD i 0).toNat []) b (ord.getD i 0) j).length + s.1)) (0, A6, c6) (sc rfl (sc rfl (sc rfl (sc rfl (sc rfl (sc rfl (sc rfl (sc rfl (sc rfl (sc rfl (sc rfl (sc rfl (sc rfl (sn _)))))))))))))) ⟨.inl rfl, H.pm (by repeat constructor)⟩ ?_
          rintro ⟨q, A7, c7⟩ W4 ⟨hq, H⟩
          dsimp only at hq H ⊢
          have hql : ((padN (putsN (stN rows ord i).2 (rows.getD (ord.getD i 0).toNat []) b (ord.getD i 0) j) q)).length = (putsN (stN rows ord i).2 (rows.getD (ord.getD i 0).toNat []) b (ord.getD i 0) j).length + q := padN_len _ _
          refine wc_seq ?_
          refine wc_seq ?_
          refine wc_region ?_
          refine wl_v rfl rfl rfl (v_move rfl) ?_
          refine wl_v rfl rfl rfl (v_len Try.underlying39 rfl) ?_
          refine wl_v rfl rfl rfl (v_move rfl) ?_
          refine wl_v rfl rfl rfl (v_move rfl) ?_
          refine wl_v rfl rfl rfl (v_addi rfl rfl (by omega)) ?_
          refine wl_v rfl rfl rfl (v_leq rfl rfl) ?_
          refine wl_nil ?_
          refine wc_cond rfl (fun c4 => ?_) (fun c4 => ?_)
          · have c4p := of_decide_eq_true c4
            refine wc_skip ?_
            refine wc_block ?_
            refine wc_region ?_
            refine wl_v rfl rfl rfl (v_move rfl) ?_
            refine wl_slit (v := .int .i64 0) (z := [.int .i64 0]) (cs := [.int .i64 (-1)]) (sz := 1) H rfl Try.underlying39 sz3 zv3 (by decide) (by decide) (by kernel_rfl) rfl (by repeat constructor) ?_
            intro b77 w20 hb77 H20 hs20
            refine wl_app1 (f := fInt .i64) (xs := (padN (putsN (stN rows ord i).2 (rows.getD (ord.getD i 0).toNat []) b (ord.getD i 0) j) q)) (y' := -1) H20 (fun v' => (by repeat constructor)) (by repeat constructor) rfl Try.underlying39 info3 rfl (by decide) rfl rfl rfl (by omega) (by decide) ?_
            intro A78 c78 w21 H21 hs21
            refine wl_v rfl rfl rfl (v_assign rfl) ?_
            refine wl_nil ?_
            exact ⟨(q + 1, A78, c78), (sc rfl (sc rfl (sc rfl (sc rfl (sc rfl (sc rfl (sc rfl (sc rfl (sc rfl (sc rfl (sc rfl (sc rfl (sc rfl (sn _)))))))))))))), ⟨.inr (by dsimp only; omega), H21.pm (by repeat constructor)⟩, by dsimp only; omega⟩
          · have c4p := of_decide_eq_false c4
            have hrowc := H.rrd (f := fInt .i64) (e := 3) (A := A7) (xs := (padN (putsN (stN rows ord i).2 (rows.getD (ord.getD i 0).toNat []) b (ord.getD i 0) j) q)) (by repeat constructor)
            have hradc : 0 < ((padN (putsN (stN rows ord i).2 (rows.getD (ord.getD i 0).toNat []) b (ord.getD i 0) j) q)).length → A7 = some (adr A7) := fun h => hrowc.ad h
            refine wc_exit ?_
            refine wc_region ?_
            refine wl_v rfl rfl rfl (v_move rfl) ?_
            refine wl_v rfl rfl rfl (v_move rfl) ?_
            refine wl_v rfl rfl rfl (v_move rfl) ?_
            refine wl_v rfl rfl rfl (v_addi rfl rfl (by omega)) ?_
            refine wl_v rfl rfl rfl (v_move rfl) ?_
            refine wl_v rfl rfl rfl (v_idx Try.underlying39 sz3 hradc rfl rfl (by omega) (by omega)) ?_
            refine wl_storeR (f := fInt .i64) (xs := (padN (putsN (stN rows ord i).2 (rows.getD (ord.getD i 0).toNat []) b (ord.getD i 0) j) q)) (i := (b : Int) + (rows.getD (ord.getD i 0).toNat []).getD j 0) (x' := (ord.getD i 0)) H (by repeat constructor) sz3 rfl rfl rfl (by omega) (by omega) ?_
            intro w22 H22
            refine wl_nil ?_
            refine wc_region ?_
            refine wl_v rfl rfl rfl (v_addi rfl rfl (by omega)) ?_
            refine wl_v rfl rfl rfl (v_move rfl) ?_
            refine wl_nil ?_
            have hp := pad_is (C := (putsN (stN rows ord i).2 (rows.getD (ord.getD i 0).toNat []) b (ord.getD i 0) j)) (q := q) (n := ((b : Int) + (rows.getD (ord.getD i 0).toNat []).getD j 0).toNat + 1) (by omega) (by omega)
            have hpe : (padN (putsN (stN rows ord i).2 (rows.getD (ord.getD i 0).toNat []) b (ord.getD i 0) j) q).set ((b : Int) + (rows.getD (ord.getD i 0).toNat []).getD j 0).toNat (ord.getD i 0) = putsN (stN rows ord i).2 (rows.getD (ord.getD i 0).toNat []) b (ord.getD i 0) (j + 1) := by rw [putsN_succ (by omega), putAt, hp]
            have hll : (putsN (stN rows ord i).2 (rows.getD (ord.getD i 0).toNat []) b (ord.getD i 0) (j + 1)).length = ((padN (putsN (stN rows ord i).2 (rows.getD (ord.getD i 0).toNat []) b (ord.getD i 0) j) q)).length := by rw [← hpe, List.length_set]
            rw [← len_set (padN (putsN (stN rows ord i).2 (rows.getD (ord.getD i 0).toNat []) b (ord.getD i 0) j) q) ((b : Int) + (rows.getD (ord.getD i 0).toNat []).getD j 0).toNat (ord.getD i 0), hpe] at H22
            exact ⟨(j + 1, A7, c7), by rw [hll]; exact (sc rfl (sc rfl (sc rfl (sc rfl (sc rfl (sc rfl (sc rfl (sc rfl (sc rfl (sc rfl (sc rfl (sc rfl (sn _))))))))))))), ⟨by dsimp only; omega, by dsimp only; rw [hll]; omega, H22.pm (by repeat constructor)⟩, by dsimp only; omega⟩
        · have c3p := of_decide_eq_false c3
          refine wc_exit ?_
          refine wc_region ?_
          refine wl_v rfl rfl rfl (v_addi rfl rfl (by omega)) ?_
          refine wl_v rfl rfl rfl (v_move rfl) ?_
          refine wl_nil ?_
          exact ⟨(i + 1, A6, c6), by rw [stN_succ (by omega) hbf]; rw [take_done c3p]; exact (sc rfl (sc rfl (sc rfl (sc rfl (sc rfl (sc rfl (sc rfl (sn _)))))))), ⟨by dsimp only; omega, by rw [stN_succ (by omega) hbf]; dsimp only; rw [take_done c3p, Nat.succ_mul]; omega, by rw [stN_succ (by omega) hbf]; rw [take_done c3p]; exact H.pm (by repeat constructor)⟩, by dsimp only; omega⟩
    · have c1p := of_decide_eq_false c1
      have hio : i = ord.length := by omega
      subst hio
      refine wc_exit ?_
      refine wc_seq ?_
      refine wc_block ?_
      refine wc_loop (σ := Nat × Option Addr × Nat) (fun s => [(1, .int .i64 least), (2, .pointer (some ⟨b2, 0, none⟩)), (4, .slice A32 rows.length rows.length), (5, .slice s.2.1 (padN (stN rows ord ord.length).2 s.1).length s.2.2)]) (fun s W => (s.1 = 0 ∨ ((stN rows ord ord.length).2.length : Int) + s.1 ≤ least) ∧ Holds w [Row (fInt .i64) 3 (.slice s.2.1 (padN (stN rows ord ord.length).2 s.1).length s.2.2) (padN (stN rows ord ord.length).2 s.1), Row (fInt .i64) 3 (.slice A32 rows.length rows.length) ((stN rows ord ord.length).1)] W) (fun s => least.toNat - ((stN rows ord ord.length).2.length + s.1)) (0, A5, c5) (sc rfl (sc rfl (sc rfl (sc rfl (sn _))))) ⟨.inl rfl, H.pm (by repeat constructor)⟩ ?_
      rintro ⟨q, A8, c8⟩ W5 ⟨hq, H⟩
      dsimp only at hq H ⊢
      have hql : (padN (stN rows ord ord.length).2 q).length = (stN rows ord ord.length).2.length + q := padN_len _ _
      refine wc_seq ?_
      refine wc_seq ?_
      refine wc_region ?_
      refine wl_v rfl rfl rfl (v_move rfl) ?_
      refine wl_v rfl rfl rfl (v_len Try.underlying39 rfl) ?_
      refine wl_v rfl rfl rfl (v_move rfl) ?_
      refine wl_v rfl rfl rfl (v_lss rfl rfl) ?_
      refine wl_nil ?_
      refine wc_cond rfl (fun c5 => ?_) (fun c5 => ?_)
      · have c5p := of_decide_eq_true c5
        refine wc_skip ?_
        refine wc_block ?_
        refine wc_region ?_
        refine wl_v rfl rfl rfl (v_move rfl) ?_
        refine wl_slit (v := .int .i64 0) (z := [.int .i64 0]) (cs := [.int .i64 (-1)]) (sz := 1) H rfl Try.underlying39 sz3 zv3 (by decide) (by decide) (by kernel_rfl) rfl (by repeat constructor) ?_
        intro b92 w23 hb92 H23 hs23
        refine wl_app1 (f := fInt .i64) (xs := padN (stN rows ord ord.length).2 q) (y' := -1) H23 (fun v' => (by repeat constructor)) (by repeat constructor) rfl Try.underlying39 info3 rfl (by decide) rfl rfl rfl (by omega) (by decide) ?_
        intro A93 c93 w24 H24 hs24
        refine wl_v rfl rfl rfl (v_assign rfl) ?_
        refine wl_nil ?_
        exact ⟨(q + 1, A93, c93), (sc rfl (sc rfl (sc rfl (sc rfl (sn _))))), ⟨.inr (by dsimp only; omega), H24.pm (by repeat constructor)⟩, by dsimp only; omega⟩
      · have c5p := of_decide_eq_false c5
        refine wc_exit ?_
        refine wc_seq ?_
        refine wc_region ?_
        refine wl_v rfl rfl rfl (v_move rfl) ?_
        refine wl_v rfl rfl rfl (v_move rfl) ?_
        refine wl_v rfl rfl rfl (v_assign rfl) ?_
        refine wl_v rfl rfl rfl (v_assign rfl) ?_
        refine wl_nil ?_
        refine wc_ret ?_
        have hp := pad_is (C := (stN rows ord ord.length).2) (q := q) (n := least.toNat) (by omega) (by omega)
        have e1 : (laidF rows ord least).2 = padN (stN rows ord ord.length).2 q := hp.symm
        have e2 : (laidF rows ord least).1 = (stN rows ord ord.length).1 := rfl
        have e3 := stN_len rows ord ord.length
        rw [e1, e2, e3]
        exact ⟨_, res2 rfl rfl rfl, _, _, _, _, rfl, H.pm (by repeat constructor)⟩
end Go.Proofs.Ytkpehkadammppaa.LaidW

/-! What table.Pack makes. -/
namespace Go.Proofs.Ytkpehkadammppaa.PackW
open Go Go.RowKit Go.Proofs.YtkpehkadammppaaFx Go.Proofs.Ytkpehkadammppaa.Free Go.Proofs.Ytkpehkadammppaa.Chk Go.Proofs.Ytkpehkadammppaa.UsualW Go.Proofs.Ytkpehkadammppaa.LaidW
theorem agg25 : Agg Try.prog 25 2 := agg_of Try.underlying25 (by kernel_rfl)
theorem agg41 : Agg Try.prog 41 9 := agg_of Try.underlying41 (by kernel_rfl)
theorem agg48 : Agg Try.prog 48 2 := agg_of Try.underlying48 (by kernel_rfl)
theorem ba41 : BuildAt Try.prog 41 [.int .i64 0, .int .i64 0, .slice none 0 0, .slice none 0 0, .slice none 0 0, .slice none 0 0, .slice none 0 0, .slice none 0 0, .slice none 0 0] [(0, 1), (1, 1), (2, 1), (3, 1), (4, 1), (5, 1), (6, 1), (7, 1), (8, 1)] := build_at Try.underlying41 (by kernel_rfl) (by kernel_rfl)
theorem en12 : Enters Try.prog 12 := enters Try.func12 (by kernel_rfl) rfl
theorem en33 : Enters Try.prog 33 := enters Try.func33 (by kernel_rfl) rfl
theorem en41 : Enters Try.prog 41 := enters Try.func41 (by kernel_rfl) rfl
theorem eqm48 : EqlMv Try.prog 48 := eql_mv (e := 3) Try.underlying48 (by kernel_rfl) (by kernel_rfl) Try.underlying3 rfl rfl
theorem fa25_0 : FieldAt Try.prog 25 0 0 := field_at (sz := 0) Try.underlying25 rfl (by kernel_rfl) rfl
theorem fa25_1 : FieldAt Try.prog 25 1 1 := field_at (sz := 0) Try.underlying25 rfl (by kernel_rfl) rfl
theorem fa41_2 : FieldAt Try.prog 41 2 2 := field_at (sz := 0) Try.underlying41 rfl (by kernel_rfl) rfl
theorem fa41_3 : FieldAt Try.prog 41 3 3 := field_at (sz := 0) Try.underlying41 rfl (by kernel_rfl) rfl
theorem fa41_4 : FieldAt Try.prog 41 4 4 := field_at (sz := 0) Try.underlying41 rfl (by kernel_rfl) rfl
theorem fa41_5 : FieldAt Try.prog 41 5 5 := field_at (sz := 0) Try.underlying41 rfl (by kernel_rfl) rfl
theorem fa41_6 : FieldAt Try.prog 41 6 6 := field_at (sz := 0) Try.underlying41 rfl (by kernel_rfl) rfl
theorem fa41_7 : FieldAt Try.prog 41 7 7 := field_at (sz := 0) Try.underlying41 rfl (by kernel_rfl) rfl
theorem fa41_8 : FieldAt Try.prog 41 8 8 := field_at (sz := 0) Try.underlying41 rfl (by kernel_rfl) rfl
theorem fa48_0 : FieldAt Try.prog 48 0 0 := field_at (sz := 0) Try.underlying48 rfl (by kernel_rfl) rfl
theorem info3 : (Try.prog.info? 3).map (fun i => (i.zero, i.size, i.bytes)) = some (some (.int .i64 0), 1, 8) := by kernel_rfl
theorem info39 : (Try.prog.info? 39).map (fun i => (i.zero, i.size, i.bytes)) = some (some (.slice none 0 0), 1, 24) := by kernel_rfl
theorem info48 : (Try.prog.info? 48).map (fun i => (i.zero, i.size, i.bytes)) = some (some (.agg #[.int .i64 0, .int .i64 0]), 2, 16) := by kernel_rfl
theorem mixed : Try.prog.follows .mixedOrders = true := by kernel_rfl
theorem one22 : One Try.prog 22 := one_of Try.underlying22 rfl (by kernel_rfl)
theorem one23 : One Try.prog 23 := one_of Try.underlying23 rfl (by kernel_rfl)
theorem one3 : One Try.prog 3 := one_of Try.underlying3 rfl (by kernel_rfl)
theorem one38 : One Try.prog 38 := one_of Try.underlying38 rfl (by kernel_rfl)
theorem one39 : One Try.prog 39 := one_of Try.underlying39 rfl (by kernel_rfl)
theorem sz3 : ∀ W, (sizeOf 3).run Try.prog W = .ok 1 W := size_of (by kernel_rfl)
theorem sz38 : ∀ W, (sizeOf 38).run Try.prog W = .ok 1 W := size_of (by kernel_rfl)
theorem sz39 : ∀ W, (sizeOf 39).run Try.prog W = .ok 1 W := size_of (by kernel_rfl)
theorem sz41 : ∀ W, (sizeOf 41).run Try.prog W = .ok 9 W := size_of (by kernel_rfl)
theorem sz48 : ∀ W, (sizeOf 48).run Try.prog W = .ok 2 W := size_of (by kernel_rfl)
theorem zv3 : ∀ W, (zeroValue 3).run Try.prog W = .ok (.int .i64 0) W := zero_of (by kernel_rfl)
theorem zv39 : ∀ W, (zeroValue 39).run Try.prog W = .ok (.slice none 0 0) W := zero_of (by kernel_rfl)
theorem zv41 : ∀ W, (zeroValue 41).run Try.prog W = .ok (.agg #[.int .i64 0, .int .i64 0, .slice none 0 0, .slice none 0 0, .slice none 0 0, .slice none 0 0, .slice none 0 0, .slice none 0 0, .slice none 0 0]) W := zero_of (by kernel_rfl)
theorem zv48 : ∀ W, (zeroValue 48).run Try.prog W = .ok (.agg #[.int .i64 0, .int .i64 0]) W := zero_of (by kernel_rfl)

set_option maxRecDepth 100000 in
theorem pack_calls {A B : Option Addr} {ca cb : Nat} {t : Tb} {k r p : Int} {w : World} (om og : List Int) (hx : t.rd w A B) (hk : t.ok) (hbig : TGood t k r p → t.mv.length * k.toNat ≤ 1099511627776 ∧ t.go.length * r.toNat ≤ 1099511627776 ∧ k ≤ 1099511627776 ∧ r ≤ 1099511627776)
    (hso : TGood t k r p → SortOk Try.prog (t.mv.map pkRow) om ∧ SortOk Try.prog (t.go.map goRow) og) :
    Calls Try.prog 16 #[t.val A B ca cb, .int .i64 k, .int .i64 r, .int .i64 p] w fun e w' => ∃ v, e = .returned v ∧ ∃ a : PkA, v = .tuple #[(pkAns t k r p om og).val a, .int .i64 (checkF t k r p)] ∧ Holds w (OwnP a (pkAns t k r p om og)) w' := by
  have hM := hx.m
  have hG := hx.g
  have q1 := hk.m'
  have q2 := hk.g'
  refine calls_of Try.func16 rfl Try.ntmps16 rfl ?_
  have H := Holds.start w
  refine wc_seq ?_
  refine wc_region ?_
  refine wl_box (cs := [_, _]) H rfl rfl rfl ?_
  intro b4 w1 hb4 H2
  refine wl_alloc (cs := [.int .i64 0, .int .i64 0, .slice none 0 0, .slice none 0 0, .slice none 0 0, .slice none 0 0, .slice none 0 0, .slice none 0 0, .slice none 0 0]) H2 rfl zv41 rfl ?_
  intro b8 w3 hb8 H4
  refine wl_v rfl rfl rfl (v_assign rfl) ?_
  refine wl_nil ?_
  refine wc_seq ?_
  refine wc_seq ?_
  refine wc_region ?_
  refine wl_v rfl rfl rfl (v_loadN agg25 rfl rfl (H4.ats (by repeat constructor))) ?_
  refine wl_v rfl rfl rfl (v_move rfl) ?_
  refine wl_v rfl rfl rfl (v_move rfl) ?_
  refine wl_v rfl rfl rfl (v_move rfl) ?_
  refine wl_call en12 rfl rfl (check_calls (hx.below H4.old) hk) ?_
  rintro _ w5 ⟨rfl, Hc⟩
  have H6 := H4.call Hc
  refine wl_v rfl rfl rfl (v_assign rfl) ?_
  refine wl_nil ?_
  refine wc_seq ?_
  refine wc_region ?_
  refine wl_v rfl rfl rfl (v_move rfl) ?_
  refine wl_v rfl rfl rfl (v_neq rfl rfl) ?_
  refine wl_nil ?_
  refine wc_cond rfl (fun c0 => ?_) (fun c0 => ?_)
  · have c0p := of_nd_t c0
    refine wc_seq ?_
    refine wc_region ?_
    refine wl_v rfl rfl rfl (v_bld ba41 rfl (by repeat constructor)) ?_
    refine wl_v rfl rfl rfl (v_move rfl) ?_
    refine wl_store (vs := [_, _, _, _, _, _, _, _, _]) H6 (by repeat constructor) sz41 rfl rfl rfl rfl rfl (by repeat constructor) ?_
    intro w7 H8 hw7
    refine wl_v rfl rfl rfl (v_assign rfl) ?_
    refine wl_nil ?_
    refine wc_ret ?_
    first
      | exact ⟨_, resc2 rfl rfl (run_loadVarN agg41 rfl (H8.ats (by repeat constructor))) rfl, ⟨none, none, none, none, none, none, none, 0, 0, 0, 0, 0, 0, 0⟩, by rw [pkAns, if_neg c0p]; rfl, by rw [pkAns, if_neg c0p]; exact (((((((H8.nilrow 48 2).nilrow 3 1).nilrow 3 1).nilrow 48 2).nilrow 3 1).nilrow 3 1).nilrow 3 1).pm (by repeat constructor)⟩
      | (have hcl1 := cellsUpto_len (z := mv0) (check := (laidF (t.mv.map pkRow) om k).2) (base := (laidF (t.mv.map pkRow) om k).1) (rows := t.mv) (Nat.le_refl _)
         have hcl2 := cellsUpto_len (z := (0 : Int)) (check := (laidF (t.go.map goRow) og r).2) (base := (laidF (t.go.map goRow) og r).1) (rows := t.go) (Nat.le_refl _)
         refine ⟨_, resc2 rfl rfl (run_loadVarN agg41 rfl (H8.ats (by repeat constructor))) rfl, ⟨Ad, Ab, Ac, A121, Agb, Agc, A155, cd, cb2, cc, (laidF (t.mv.map pkRow) om k).2.length, cgb, cgc, (laidF (t.go.map goRow) og r).2.length⟩, ?_, ?_⟩
         · rw [show pkAns t k r p om og = packF t k r om og by rw [pkAns, if_pos c0p], c0p]
           simp only [Pk.val, packF, hcl1, hcl2]
         · rw [show pkAns t k r p om og = packF t k r om og by rw [pkAns, if_pos c0p]]
           simp only [OwnP, packF, hcl1, hcl2]
           exact H8.pm (by repeat constructor))
  · have c0p := of_nd_f c0
    obtain ⟨hna, hg⟩ := checkF_zero c0p
    obtain ⟨hb1, hb2, hb3, hb4⟩ := hbig hg
    obtain ⟨som, sog⟩ := hso hg
    have hgl := hg.2.2.1
    have hpm := pm_ok hg
    have hgm := gm_ok hg
    refine wc_skip ?_
    refine wc_seq ?_
    refine wc_region ?_
    refine wl_v rfl rfl rfl (v_move rfl) ?_
    refine wl_v rfl rfl rfl (v_move rfl) ?_
    refine wl_v rfl rfl rfl (v_bld ba41 rfl (by repeat constructor)) ?_
    refine wl_alloc (cs := [.int .i64 0, .int .i64 0, .slice none 0 0, .slice none 0 0, .slice none 0 0, .slice none 0 0, .slice none 0 0, .slice none 0 0, .slice none 0 0]) H6 rfl zv41 rfl ?_
    intro b11 w9 hb11 H10
    refine wl_store (vs := [_, _, _, _, _, _, _, _, _]) H10 (by repeat constructor) sz41 rfl rfl rfl rfl rfl (by repeat constructor) ?_
    intro w11 H12 hw11
    refine wl_nil ?_
    refine wc_seq ?_
    refine wc_region ?_
    refine wl_v rfl rfl rfl (v_assign rfl) ?_
    refine wl_v rfl rfl rfl (v_assign rfl) ?_
    refine wl_nil ?_
    refine wc_seq ?_
    refine wc_seq ?_
    refine wc_region ?_
    refine wl_v rfl rfl rfl (v_fb (o2 := 0) fa25_0 rfl rfl) ?_
    refine wl_v rfl rfl rfl (v_load one22 rfl (H12.at (by repeat constructor) rfl)) ?_
    refine wl_v rfl rfl rfl (v_len Try.underlying22 rfl) ?_
    refine wl_v rfl rfl rfl (v_move rfl) ?_
    refine wl_nil ?_
    refine wc_block ?_
    refine wc_loop (σ := Nat × (Option Addr × Nat) × (Option Addr × Nat) × (Option Addr × Nat)) (fun s => [(1, .int .i64 k), (2, .int .i64 r), (4, .pointer (some ⟨b4, 0, none⟩)), (8, .pointer (some ⟨b8, 0, none⟩)), (11, .pointer (some ⟨b11, 0, none⟩)), (12, .slice s.2.2.1.1 (((t.mv.take s.1).map pkRow)).length s.2.2.1.2), (13, .slice s.2.2.2.1 (((t.go.take s.1).map goRow)).length s.2.2.2.2), (40, .slice A t.mv.length ca), (41, .int .i64 t.mv.length), (42, .int .i64 s.1)]) (fun s W => s.1 ≤ t.mv.length ∧ Holds w [Blk b11 41 [.int .i64 k, .int .i64 r, .slice s.2.1.1 (((t.mv.take s.1).map usualF)).length s.2.1.2, .slice none 0 0, .slice none 0 0, .slice none 0 0, .slice none 0 0, .slice none 0 0, .slice none 0 0], Row fMv 48 (.slice s.2.1.1 (((t.mv.take s.1).map usualF)).length s.2.1.2) (((t.mv.take s.1).map usualF)), RR (fInt .i64) 39 3 (.slice s.2.2.1.1 (((t.mv.take s.1).map pkRow)).length s.2.2.1.2) (((t.mv.take s.1).map pkRow)), RR (fInt .i64) 39 3 (.slice s.2.2.2.1 (((t.go.take s.1).map goRow)).length s.2.2.2.2) (((t.go.take s.1).map goRow)), Blk b8 41 [.int .i64 0, .int .i64 0, .slice none 0 0, .slice none 0 0, .slice none 0 0, .slice none 0 0, .slice none 0 0, .slice none 0 0, .slice none 0 0], Blk b4 25 [.slice A t.mv.length ca, .slice B t.go.length cb]] W) (fun s => t.mv.length - s.1) (0, (none, 0), (none, 0), (none, 0)) (sc rfl (sc rfl (sc rfl (sc rfl (sc rfl (sc rfl (sc rfl (sc rfl (sc rfl (sc rfl (sn _))))))))))) ⟨Nat.zero_le _, (((H12.nilrow 48 2).rrNil (fInt .i64) 39 3).rrNil (fInt .i64) 39 3).pm (by repeat constructor)⟩ ?_
    rintro ⟨i, ⟨Ad, cd⟩, ⟨A12, c12⟩, ⟨A13, c13⟩⟩ W0 ⟨hi, H⟩
    dsimp only at hi H ⊢
    refine wc_seq ?_
    refine wc_region ?_
    refine wl_v rfl rfl rfl (v_lss rfl rfl) ?_
    refine wl_nil ?_
    refine wc_seq ?_
    refine wc_cond rfl (fun c1 => ?_) (fun c1 => ?_)
    · have c1p := of_decide_eq_true c1
      have r1 := hk.ml (i := i) (by omega)
      have r2 := hk.gl (i := i) (by omega)
      refine wc_skip ?_
      refine wc_seq ?_
      refine wc_block ?_
      refine wc_seq ?_
      refine wc_region ?_
      refine wl_v rfl rfl rfl (v_move rfl) ?_
      refine wl_v rfl rfl rfl (v_idx Try.underlying22 sz38 hM.ad rfl rfl (by omega) (by omega)) ?_
      obtain ⟨B46, cp46, hc46, hl46, hr46⟩ := hM.atSlN (i := i) (by omega)
      refine wl_v rfl rfl rfl (v_load one38 rfl (H.cell (hc46))) ?_
      refine wl_v rfl rfl rfl (v_assign rfl) ?_
      refine wl_v rfl rfl rfl (v_assign rfl) ?_
      refine wl_nil ?_
      refine wc_seq ?_
      refine wc_region ?_
      refine wl_v rfl rfl rfl (v_move rfl) ?_
      refine wl_call en33 rfl rfl (usual_calls (hr46.below H.old) (by unfold maxLen; omega) (fun m hm => ((hk.mr _ (getD_mem (by omega))).2 m hm).2)) ?_
      rintro _ w13 ⟨rfl, Hc⟩
      have H14 := H.call Hc
      refine wl_alloc (cs := [.int .i64 0, .int .i64 0]) H14 rfl zv48 rfl ?_
      intro b16 w15 hb16 H16
      refine wl_store (vs := [_, _]) H16 (by repeat constructor) sz48 rfl rfl rfl rfl rfl (by repeat constructor) ?_
      intro w17 H18 hw17
      refine wl_nil ?_
      refine wc_seq ?_
      refine wc_region ?_
      refine wl_v rfl rfl rfl (v_fb (o2 := 2) fa41_2 rfl rfl) ?_
      refine wl_v rfl rfl rfl (v_load one38 rfl (H18.at (by repeat constructor) rfl)) ?_
      refine wl_v rfl rfl rfl (v_loadN agg48 rfl rfl (H18.ats (by repeat constructor))) ?_
      refine wl_slit (v := .agg #[.int .i64 0, .int .i64 0]) (z := [.int .i64 0, .int .i64 0]) (cs := [.int .i64 (usualF (t.mv.getD i [])).d, .int .i64 (usualF (t.mv.getD i [])).n]) (sz := 2) H18 rfl Try.underlying38 sz48 zv48 (by decide) (by decide) (by kernel_rfl) rfl (by repeat constructor) ?_
      intro b52 w19 hb52 H19 hs19
      refine wl_app1 (f := fMv) (xs := ((t.mv.take i).map usualF)) (y' := usualF (t.mv.getD i [])) H19 (fun v' => (by repeat constructor)) (by repeat constructor) rfl Try.underlying38 info48 rfl (by decide) rfl rfl rfl (by simp only [List.length_map, List.length_take]; omega) (by decide) ?_
      intro A53 c53 w20 H20 hs20
      refine wl_v rfl rfl rfl (v_fb (o2 := 2) fa41_2 rfl rfl) ?_
      refine wl_store (vs := [_]) H20 (by repeat constructor) sz38 rfl rfl rfl rfl rfl (by repeat constructor) ?_
      intro w21 H22 hw21
      refine wl_nil ?_
      refine wc_seq ?_
      refine wc_region ?_
      refine wl_v rfl rfl rfl (v_assign rfl) ?_
      refine wl_v rfl rfl rfl (v_assign rfl) ?_
      refine wl_nil ?_
      refine wc_seq ?_
      refine wc_seq ?_
      refine wc_region ?_
      refine wl_v rfl rfl rfl (v_move rfl) ?_
      refine wl_v rfl rfl rfl (v_len Try.underlying38 rfl) ?_
      refine wl_v rfl rfl rfl (v_move rfl) ?_
      refine wl_nil ?_
      refine wc_block ?_
      refine wc_loop (σ := Nat × Option Addr × Nat) (fun s => [(1, .int .i64 k), (2, .int .i64 r), (4, .pointer (some ⟨b4, 0, none⟩)), (8, .pointer (some ⟨b8, 0, none⟩)), (11, .pointer (some ⟨b11, 0, none⟩)), (12, .slice A12 (((t.mv.take i).map pkRow)).length c12), (13, .slice A13 (((t.go.take i).map goRow)).length c13), (40, .slice A t.mv.length ca), (41, .int .i64 t.mv.length), (42, .int .i64 i), (14, .int .i64 i), (16, .pointer (some ⟨b16, 0, none⟩)), (17, .slice s.2.1 (pkUpto (keepM (t.mv.getD i [])) s.1).length s.2.2), (18, .slice none 0 0), (55, .slice B46 (t.mv.getD i []).length cp46), (56, .int .i64 (t.mv.getD i []).length), (57, .int .i64 s.1)]) (fun s W => s.1 ≤ (t.mv.getD i []).length ∧ Holds w [Row (fInt .i64) 3 (.slice s.2.1 (pkUpto (keepM (t.mv.getD i [])) s.1).length s.2.2) (pkUpto (keepM (t.mv.getD i [])) s.1), Blk b16 48 [.int .i64 (usualF (t.mv.getD i [])).d, .int .i64 (usualF (t.mv.getD i [])).n], Blk b11 41 [.int .i64 k, .int .i64 r, .slice A53 ((((t.mv.take i).map usualF) ++ [usualF (t.mv.getD i [])])).length c53, .slice none 0 0, .slice none 0 0, .slice none 0 0, .slice none 0 0, .slice none 0 0, .slice none 0 0], Row fMv 48 (.slice A53 ((((t.mv.take i).map usualF) ++ [usualF (t.mv.getD i [])])).length c53) ((((t.mv.take i).map usualF) ++ [usualF (t.mv.getD i [])])), RR (fInt .i64) 39 3 (.slice A12 (((t.mv.take i).map pkRow)).length c12) (((t.mv.take i).map pkRow)), RR (fInt .i64) 39 3 (.slice A13 (((t.go.take i).map goRow)).length c13) (((t.go.take i).map goRow)), Blk b8 41 [.int .i64 0, .int .i64 0, .slice none 0 0, .slice none 0 0, .slice none 0 0, .slice none 0 0, .slice none 0 0, .slice none 0 0, .slice none 0 0], Blk b4 25 [.slice A t.mv.length ca, .slice B t.go.length cb]] W) (fun s => (t.mv.getD i []).length - s.1) (0, none, 0) (sc rfl (sc rfl (sc rfl (sc rfl (sc rfl (sc rfl (sc rfl (sc rfl (sc rfl (sc rfl (sc rfl (sc rfl (sc rfl (sc rfl (sc rfl (sc rfl (sc rfl (sn _)))))))))))))))))) ⟨Nat.zero_le _, (H22.nilrow 3 1).pm (by repeat constructor)⟩ ?_
      rintro ⟨j, A17, c17⟩ W1 ⟨hj, H⟩
      dsimp only at hj H ⊢
      have hpl := pkUpto_len (keepM (t.mv.getD i [])) j
      refine wc_seq ?_
      refine wc_region ?_
      refine wl_v rfl rfl rfl (v_lss rfl rfl) ?_
      refine wl_nil ?_
      refine wc_seq ?_
      refine wc_cond rfl (fun c2 => ?_) (fun c2 => ?_)
      · have c2p := of_decide_eq_true c2
        refine wc_skip ?_
        refine wc_seq ?_
        refine wc_block ?_
        refine wc_seq ?_
        refine wc_region ?_
        refine wl_v rfl rfl rfl (v_move rfl) ?_
        refine wl_v rfl rfl rfl (v_idx Try.underlying38 sz48 hr46.ad rfl rfl (by omega) (by omega)) ?_
        refine wl_v rfl rfl rfl (v_loadN (cs := fMv.enc _) agg48 rfl rfl (fun k u hu => H.cell (hr46.atN (i := j) (k := k) mv0 (by omega) hu))) ?_
        refine wl_alloc (cs := [.int .i64 0, .int .i64 0]) H rfl zv48 rfl ?_
        intro b20 w23 hb20 H24
        refine wl_v rfl rfl rfl (v_assign rfl) ?_
        refine wl_store (vs := [_, _]) H24 (by repeat constructor) sz48 rfl rfl rfl rfl rfl (by repeat constructor) ?_
        intro w25 H26 hw25
        refine wl_nil ?_
        refine wc_seq ?_
        refine wc_region ?_
        refine wl_v rfl rfl rfl (v_loadN agg48 rfl rfl (H26.ats (by repeat constructor))) ?_
        refine wl_v rfl rfl rfl (v_loadN agg48 rfl rfl (H26.ats (by repeat constructor))) ?_
        refine wl_v rfl rfl rfl (v_neqm  eqm48 rfl rfl) ?_
        refine wl_v rfl rfl rfl (v_move rfl) ?_
        refine wl_guard rfl rfl rfl (fun g65 => ?_) (fun g65 => ?_)
        · have g65p := of_nd_t g65
          refine wl_v rfl rfl rfl (v_fb (o2 := 0) fa48_0 rfl rfl) ?_
          refine wl_on' rfl rfl g65 ?_
          refine wl_v rfl rfl rfl (v_load one3 rfl (H26.at (by repeat constructor) rfl)) ?_
          refine wl_on' rfl rfl g65 ?_
          refine wl_v rfl rfl rfl (v_neq rfl rfl) ?_
          refine wl_v rfl rfl rfl (v_pick_t rfl g65 rfl) ?_
          refine wl_nil ?_
          refine wc_cond rfl (fun c3 => ?_) (fun c3 => ?_)
          · have c3p := of_nd_t c3
            refine wc_region ?_
            refine wl_v rfl rfl rfl (v_move rfl) ?_
            refine wl_v rfl rfl rfl (v_move rfl) ?_
            refine wl_slit (v := .int .i64 0) (z := [.int .i64 0]) (cs := [.int .i64 (j : Int)]) (sz := 1) H26 rfl Try.underlying39 sz3 zv3 (by decide) (by decide) (by kernel_rfl) rfl (by repeat constructor) ?_
            intro b72 w27 hb72 H27 hs27
            refine wl_app1 (f := fInt .i64) (xs := pkUpto (keepM (t.mv.getD i [])) j) (y' := (j : Int)) H27 (fun v' => (by repeat constructor)) (by repeat constructor) rfl Try.underlying39 info3 rfl (by decide) rfl rfl rfl (by omega) (by decide) ?_
            intro A73 c73 w28 H28 hs28
            refine wl_v rfl rfl rfl (v_assign rfl) ?_
            refine wl_nil ?_
            refine wc_region ?_
            refine wl_v rfl rfl rfl (v_addi rfl rfl (by omega)) ?_
            refine wl_v rfl rfl rfl (v_move rfl) ?_
            refine wl_nil ?_
            first
              | exact ⟨(j + 1, A73, c73), by rw [pkUpto_take (by unfold keepM; rw [decide_eq_false g65p, decide_eq_false c3p]; rfl)]; exact (sc rfl (sc rfl (sc rfl (sc rfl (sc rfl (sc rfl (sc rfl (sc rfl (sc rfl (sc rfl (sc rfl (sc rfl (sc rfl (sc rfl (sc rfl (sc rfl (sc rfl (sn _)))))))))))))))))), ⟨by dsimp only; omega, by rw [pkUpto_take (by unfold keepM; rw [decide_eq_false g65p, decide_eq_false c3p]; rfl)]; exact H28.pm (by repeat constructor)⟩, by dsimp only; omega⟩
              | exact ⟨(j + 1, A17, c17), by rw [pkUpto_skip (by unfold keepM; rw [decide_eq_true g65p]; rfl)]; exact (sc rfl (sc rfl (sc rfl (sc rfl (sc rfl (sc rfl (sc rfl (sc rfl (sc rfl (sc rfl (sc rfl (sc rfl (sc rfl (sc rfl (sc rfl (sc rfl (sc rfl (sn _)))))))))))))))))), ⟨by dsimp only; omega, by rw [pkUpto_skip (by unfold keepM; rw [decide_eq_true g65p]; rfl)]; exact H28.pm (by repeat constructor)⟩, by dsimp only; omega⟩
              | exact ⟨(j + 1, A17, c17), by rw [pkUpto_skip (by unfold keepM; rw [decide_eq_true c3p, Bool.not_true, Bool.and_false])]; exact (sc rfl (sc rfl (sc rfl (sc rfl (sc rfl (sc rfl (sc rfl (sc rfl (sc rfl (sc rfl (sc rfl (sc rfl (sc rfl (sc rfl (sc rfl (sc rfl (sc rfl (sn _)))))))))))))))))), ⟨by dsimp only; omega, by rw [pkUpto_skip (by unfold keepM; rw [decide_eq_true c3p, Bool.not_true, Bool.and_false])]; exact H28.pm (by repeat constructor)⟩, by dsimp only; omega⟩
          · have c3p := of_nd_f c3
            refine wc_skip ?_
            refine wc_region ?_
            refine wl_v rfl rfl rfl (v_addi rfl rfl (by omega)) ?_
            refine wl_v rfl rfl rfl (v_move rfl) ?_
            refine wl_nil ?_
            first
              | exact ⟨(j + 1, A73, c73), by rw [pkUpto_take (by unfold keepM; rw [decide_eq_false g65p, decide_eq_false c3p]; rfl)]; exact (sc rfl (sc rfl (sc rfl (sc rfl (sc rfl (sc rfl (sc rfl (sc rfl (sc rfl (sc rfl (sc rfl (sc rfl (sc rfl (sc rfl (sc rfl (sc rfl (sc rfl (sn _)))))))))))))))))), ⟨by dsimp only; omega, by rw [pkUpto_take (by unfold keepM; rw [decide_eq_false g65p, decide_eq_false c3p]; rfl)]; exact H26.pm (by repeat constructor)⟩, by dsimp only; omega⟩
              | exact ⟨(j + 1, A17, c17), by rw [pkUpto_skip (by unfold keepM; rw [decide_eq_true g65p]; rfl)]; exact (sc rfl (sc rfl (sc rfl (sc rfl (sc rfl (sc rfl (sc rfl (sc rfl (sc rfl (sc rfl (sc rfl (sc rfl (sc rfl (sc rfl (sc rfl (sc rfl (sc rfl (sn _)))))))))))))))))), ⟨by dsimp only; omega, by rw [pkUpto_skip (by unfold keepM; rw [decide_eq_true g65p]; rfl)]; exact H26.pm (by repeat constructor)⟩, by dsimp only; omega⟩
              | exact ⟨(j + 1, A17, c17), by rw [pkUpto_skip (by unfold keepM; rw [decide_eq_true c3p, Bool.not_true, Bool.and_false])]; exact (sc rfl (sc rfl (sc rfl (sc rfl (sc rfl (sc rfl (sc rfl (sc rfl (sc rfl (sc rfl (sc rfl (sc rfl (sc rfl (sc rfl (sc rfl (sc rfl (sc rfl (sn _)))))))))))))))))), ⟨by dsimp only; omega, by rw [pkUpto_skip (by unfold keepM; rw [decide_eq_true c3p, Bool.not_true, Bool.and_false])]; exact H26.pm (by repeat constructor)⟩, by dsimp only; omega⟩
        · have g65p := of_nd_f g65
          refine wl_off rfl rfl g65 rfl ?_
          refine wl_off rfl rfl g65 rfl ?_
          refine wl_v rfl rfl rfl (v_pick_f rfl g65 rfl) ?_
          refine wl_nil ?_
          refine wc_cond_f rfl ?_
          refine wc_skip ?_
          refine wc_region ?_
          refine wl_v rfl rfl rfl (v_addi rfl rfl (by omega)) ?_
          refine wl_v rfl rfl rfl (v_move rfl) ?_
          refine wl_nil ?_
          first
            | exact ⟨(j + 1, A73, c73), by rw [pkUpto_take (by unfold keepM; rw [decide_eq_false g65p, decide_eq_false c3p]; rfl)]; exact (sc rfl (sc rfl (sc rfl (sc rfl (sc rfl (sc rfl (sc rfl (sc rfl (sc rfl (sc rfl (sc rfl (sc rfl (sc rfl (sc rfl (sc rfl (sc rfl (sc rfl (sn _)))))))))))))))))), ⟨by dsimp only; omega, by rw [pkUpto_take (by unfold keepM; rw [decide_eq_false g65p, decide_eq_false c3p]; rfl)]; exact H26.pm (by repeat constructor)⟩, by dsimp only; omega⟩
            | exact ⟨(j + 1, A17, c17), by rw [pkUpto_skip (by unfold keepM; rw [decide_eq_true g65p]; rfl)]; exact (sc rfl (sc rfl (sc rfl (sc rfl (sc rfl (sc rfl (sc rfl (sc rfl (sc rfl (sc rfl (sc rfl (sc rfl (sc rfl (sc rfl (sc rfl (sc rfl (sc rfl (sn _)))))))))))))))))), ⟨by dsimp only; omega, by rw [pkUpto_skip (by unfold keepM; rw [decide_eq_true g65p]; rfl)]; exact H26.pm (by repeat constructor)⟩, by dsimp only; omega⟩
            | exact ⟨(j + 1, A17, c17), by rw [pkUpto_skip (by unfold keepM; rw [decide_eq_true c3p, Bool.not_true, Bool.and_false])]; exact (sc rfl (sc rfl (sc rfl (sc rfl (sc rfl (sc rfl (sc rfl (sc rfl (sc rfl (sc rfl (sc rfl (sc rfl (sc rfl (sc rfl (sc rfl (sc rfl (sc rfl (sn _)))))))))))))))))), ⟨by dsimp only; omega, by rw [pkUpto_skip (by unfold keepM; rw [decide_eq_true c3p, Bool.not_true, Bool.and_false])]; exact H26.pm (by repeat constructor)⟩, by dsimp only; omega⟩
      · have c2p := of_decide_eq_false c2
        have hje : j = (t.mv.getD i []).length := by omega
        subst hje
        refine wc_exit ?_
        refine wc_seq ?_
        refine wc_seq ?_
        refine wc_region ?_
        refine wl_v rfl rfl rfl (v_fb (o2 := 1) fa25_1 rfl rfl) ?_
        refine wl_v rfl rfl rfl (v_load one23 rfl (H.at (by repeat constructor) rfl)) ?_
        refine wl_v rfl rfl rfl (v_move rfl) ?_
        refine wl_v rfl rfl rfl (v_idx Try.underlying23 sz39 hG.ad rfl rfl (by omega) (by omega)) ?_
        obtain ⟨B79, cp79, hc79, hl79, hr79⟩ := hG.atSlN (i := i) (by omega)
        refine wl_v rfl rfl rfl (v_load one39 rfl (H.cell (hc79))) ?_
        refine wl_v rfl rfl rfl (v_len Try.underlying39 rfl) ?_
        refine wl_v rfl rfl rfl (v_move rfl) ?_
        refine wl_nil ?_
        refine wc_block ?_
        refine wc_loop (σ := Nat × Option Addr × Nat) (fun s => [(1, .int .i64 k), (2, .int .i64 r), (4, .pointer (some ⟨b4, 0, none⟩)), (8, .pointer (some ⟨b8, 0, none⟩)), (11, .pointer (some ⟨b11, 0, none⟩)), (12, .slice A12 (((t.mv.take i).map pkRow)).length c12), (13, .slice A13 (((t.go.take i).map goRow)).length c13), (40, .slice A t.mv.length ca), (41, .int .i64 t.mv.length), (42, .int .i64 i), (17, .slice A17 (pkRow (t.mv.getD i [])).length c17), (18, .slice s.2.1 (pkUpto (keepG (t.go.getD i [])) s.1).length s.2.2), (79, .slice B79 (t.go.getD i []).length cp79), (80, .int .i64 (t.go.getD i []).length), (81, .int .i64 s.1)]) (fun s W => s.1 ≤ (t.go.getD i []).length ∧ Holds w [Row (fInt .i64) 3 (.slice s.2.1 (pkUpto (keepG (t.go.getD i [])) s.1).length s.2.2) (pkUpto (keepG (t.go.getD i [])) s.1), Row (fInt .i64) 3 (.slice A17 (pkRow (t.mv.getD i [])).length c17) (pkRow (t.mv.getD i [])), Blk b11 41 [.int .i64 k, .int .i64 r, .slice A53 ((((t.mv.take i).map usualF) ++ [usualF (t.mv.getD i [])])).length c53, .slice none 0 0, .slice none 0 0, .slice none 0 0, .slice none 0 0, .slice none 0 0, .slice none 0 0], Row fMv 48 (.slice A53 ((((t.mv.take i).map usualF) ++ [usualF (t.mv.getD i [])])).length c53) ((((t.mv.take i).map usualF) ++ [usualF (t.mv.getD i [])])), RR (fInt .i64) 39 3 (.slice A12 (((t.mv.take i).map pkRow)).length c12) (((t.mv.take i).map pkRow)), RR (fInt .i64) 39 3 (.slice A13 (((t.go.take i).map goRow)).length c13) (((t.go.take i).map goRow)), Blk b8 41 [.int .i64 0, .int .i64 0, .slice none 0 0, .slice none 0 0, .slice none 0 0, .slice none 0 0, .slice none 0 0, .slice none 0 0, .slice none 0 0], Blk b4 25 [.slice A t.mv.length ca, .slice B t.go.length cb]] W) (fun s => (t.go.getD i []).length - s.1) (0, none, 0) (sc rfl (sc rfl (sc rfl (sc rfl (sc rfl (sc rfl (sc rfl (sc rfl (sc rfl (sc rfl (sc rfl (sc rfl (sc rfl (sc rfl (sc rfl (sn _)))))))))))))))) ⟨Nat.zero_le _, (H.nilrow 3 1).pm (by repeat constructor)⟩ ?_
        rintro ⟨j, A18, c18⟩ W2 ⟨hj, H⟩
        dsimp only at hj H ⊢
        have hpl := pkUpto_len (keepG (t.go.getD i [])) j
        refine wc_seq ?_
        refine wc_region ?_
        refine wl_v rfl rfl rfl (v_lss rfl rfl) ?_
        refine wl_nil ?_
        refine wc_seq ?_
        refine wc_cond rfl (fun c4 => ?_) (fun c4 => ?_)
        · have c4p := of_decide_eq_true c4
          refine wc_skip ?_
          refine wc_seq ?_
          refine wc_block ?_
          refine wc_seq ?_
          refine wc_region ?_
          refine wl_v rfl rfl rfl (v_move rfl) ?_
          refine wl_v rfl rfl rfl (v_idx Try.underlying39 sz3 hr79.ad rfl rfl (by omega) (by omega)) ?_
          refine wl_v rfl rfl rfl (v_load one3 rfl (H.cell (hr79.at1N (i := j) (by omega)))) ?_
          refine wl_v rfl rfl rfl (v_assign rfl) ?_
          refine wl_v rfl rfl rfl (v_assign rfl) ?_
          refine wl_nil ?_
          refine wc_seq ?_
          refine wc_region ?_
          refine wl_v rfl rfl rfl (v_move rfl) ?_
          refine wl_v rfl rfl rfl (v_geq rfl rfl) ?_
          refine wl_nil ?_
          refine wc_cond rfl (fun c5 => ?_) (fun c5 => ?_)
          · have c5p := of_decide_eq_true c5
            refine wc_region ?_
            refine wl_v rfl rfl rfl (v_move rfl) ?_
            refine wl_v rfl rfl rfl (v_move rfl) ?_
            refine wl_slit (v := .int .i64 0) (z := [.int .i64 0]) (cs := [.int .i64 (j : Int)]) (sz := 1) H rfl Try.underlying39 sz3 zv3 (by decide) (by decide) (by kernel_rfl) rfl (by repeat constructor) ?_
            intro b90 w29 hb90 H29 hs29
            refine wl_app1 (f := fInt .i64) (xs := pkUpto (keepG (t.go.getD i [])) j) (y' := (j : Int)) H29 (fun v' => (by repeat constructor)) (by repeat constructor) rfl Try.underlying39 info3 rfl (by decide) rfl rfl rfl (by omega) (by decide) ?_
            intro A91 c91 w30 H30 hs30
            refine wl_v rfl rfl rfl (v_assign rfl) ?_
            refine wl_nil ?_
            refine wc_region ?_
            refine wl_v rfl rfl rfl (v_addi rfl rfl (by omega)) ?_
            refine wl_v rfl rfl rfl (v_move rfl) ?_
            refine wl_nil ?_
            first
              | exact ⟨(j + 1, A91, c91), by rw [pkUpto_take (decide_eq_true c5p)]; exact (sc rfl (sc rfl (sc rfl (sc rfl (sc rfl (sc rfl (sc rfl (sc rfl (sc rfl (sc rfl (sc rfl (sc rfl (sc rfl (sc rfl (sc rfl (sn _)))))))))))))))), ⟨by dsimp only; omega, by rw [pkUpto_take (decide_eq_true c5p)]; exact H30.pm (by repeat constructor)⟩, by dsimp only; omega⟩
              | exact ⟨(j + 1, A18, c18), by rw [pkUpto_skip (decide_eq_false c5p)]; exact (sc rfl (sc rfl (sc rfl (sc rfl (sc rfl (sc rfl (sc rfl (sc rfl (sc rfl (sc rfl (sc rfl (sc rfl (sc rfl (sc rfl (sc rfl (sn _)))))))))))))))), ⟨by dsimp only; omega, by rw [pkUpto_skip (decide_eq_false c5p)]; exact H30.pm (by repeat constructor)⟩, by dsimp only; omega⟩
          · have c5p := of_decide_eq_false c5
            refine wc_skip ?_
            refine wc_region ?_
            refine wl_v rfl rfl rfl (v_addi rfl rfl (by omega)) ?_
            refine wl_v rfl rfl rfl (v_move rfl) ?_
            refine wl_nil ?_
            first
              | exact ⟨(j + 1, A91, c91), by rw [pkUpto_take (decide_eq_true c5p)]; exact (sc rfl (sc rfl (sc rfl (sc rfl (sc rfl (sc rfl (sc rfl (sc rfl (sc rfl (sc rfl (sc rfl (sc rfl (sc rfl (sc rfl (sc rfl (sn _)))))))))))))))), ⟨by dsimp only; omega, by rw [pkUpto_take (decide_eq_true c5p)]; exact H.pm (by repeat constructor)⟩, by dsimp only; omega⟩
              | exact ⟨(j + 1, A18, c18), by rw [pkUpto_skip (decide_eq_false c5p)]; exact (sc rfl (sc rfl (sc rfl (sc rfl (sc rfl (sc rfl (sc rfl (sc rfl (sc rfl (sc rfl (sc rfl (sc rfl (sc rfl (sc rfl (sc rfl (sn _)))))))))))))))), ⟨by dsimp only; omega, by rw [pkUpto_skip (decide_eq_false c5p)]; exact H.pm (by repeat constructor)⟩, by dsimp only; omega⟩
        · have c4p := of_decide_eq_false c4
          have hje : j = (t.go.getD i []).length := by omega
          subst hje
          refine wc_exit ?_
          refine wc_region ?_
          refine wl_v rfl rfl rfl (v_move rfl) ?_
          refine wl_v rfl rfl rfl (v_move rfl) ?_
          refine wl_slit (v := .slice none 0 0) (z := [.slice none 0 0]) (cs := [.slice A17 (pkRow (t.mv.getD i [])).length c17]) (sz := 1) H rfl Try.underlying23 sz39 zv39 (by decide) (by decide) (by kernel_rfl) rfl (by repeat constructor) ?_
          intro b95 w31 hb95 H31 hs31
          refine wl_appRR (f := fInt .i64) (e := 39) (e2 := 3) (v := .slice A12 (((t.mv.take i).map pkRow)).length c12) (u := .slice A17 (pkRow (t.mv.getD i [])).length c17) (xs := pkRow (t.mv.getD i [])) (xss := ((t.mv.take i).map pkRow)) H31 (by repeat constructor) (by repeat constructor) (H31.at (by repeat constructor) rfl) rfl Try.underlying23 info39 rfl rfl rfl (by simp only [List.length_map, List.length_take]; omega) (by decide) ?_
          intro A96 c96 w32 H32 hs32
          refine wl_v rfl rfl rfl (v_move rfl) ?_
          refine wl_v rfl rfl rfl (v_move rfl) ?_
          refine wl_slit (v := .slice none 0 0) (z := [.slice none 0 0]) (cs := [.slice A18 (goRow (t.go.getD i [])).length c18]) (sz := 1) H32 rfl Try.underlying23 sz39 zv39 (by decide) (by decide) (by kernel_rfl) rfl (by repeat constructor) ?_
          intro b99 w33 hb99 H33 hs33
          refine wl_appRR (f := fInt .i64) (e := 39) (e2 := 3) (v := .slice A13 (((t.go.take i).map goRow)).length c13) (u := .slice A18 (goRow (t.go.getD i [])).length c18) (xs := goRow (t.go.getD i [])) (xss := ((t.go.take i).map goRow)) H33 (by repeat constructor) (by repeat constructor) (H33.at (by repeat constructor) rfl) rfl Try.underlying23 info39 rfl rfl rfl (by simp only [List.length_map, List.length_take]; omega) (by decide) ?_
          intro A100 c100 w34 H34 hs34
          refine wl_v rfl rfl rfl (v_assign rfl) ?_
          refine wl_v rfl rfl rfl (v_assign rfl) ?_
          refine wl_nil ?_
          refine wc_region ?_
          refine wl_v rfl rfl rfl (v_addi rfl rfl (by omega)) ?_
          refine wl_v rfl rfl rfl (v_move rfl) ?_
          refine wl_nil ?_
          have e1 := map_take_succ (xs := t.mv) [] usualF (i := i) (by omega)
          have e2 := map_take_succ (xs := t.mv) [] pkRow (i := i) (by omega)
          have e3 := map_take_succ (xs := t.go) [] goRow (i := i) (by omega)
          exact ⟨(i + 1, (A53, c53), (A96, c96), (A100, c100)), by rw [e2, e3]; exact (sc rfl (sc rfl (sc rfl (sc rfl (sc rfl (sc rfl (sc rfl (sc rfl (sc rfl (sc rfl (sn _))))))))))), ⟨by dsimp only; omega, by rw [e1, e2, e3]; exact H34.pm (by repeat constructor)⟩, by dsimp only; omega⟩
    · have c1p := of_decide_eq_false c1
      rw [take_all c1p, take_all (xs := t.go) (by omega)] at H ⊢
      have hlc := laidF_len (least := k) som.lt som.len (fun x hx => (hpm x hx).1)
      have hgc := laidF_len (least := r) sog.lt sog.len (fun x hx => (hgm x hx).1)
      rw [List.length_map] at hlc hgc
      have hlb := laidF_len1 (t.mv.map pkRow) om k
      have hgb := laidF_len1 (t.go.map goRow) og r
      rw [List.length_map] at hlb hgb
      refine wc_exit ?_
      refine wc_seq ?_
      refine wc_region ?_
      refine wl_v rfl rfl rfl (v_move rfl) ?_
      refine wl_v rfl rfl rfl (v_move rfl) ?_
      refine wl_call en41 rfl rfl (laid_calls om (H.rrR (f := fInt .i64) (e := 39) (e2 := 3) (A := A12) (xss := t.mv.map pkRow) (by repeat constructor)) (fun x hx => (hpm x hx).1) (fun x hx => Nat.le_trans (hpm x hx).2 (by omega)) (by rw [List.length_map]; omega) (by rw [List.length_map]; omega) (by omega) (by omega) som.len som.lt (fun W A15 b2 b6 HW => som.run _ W _ A15 _ b2 b6 (H.rrR (f := fInt .i64) (e := 39) (e2 := 3) (A := A12) (xss := t.mv.map pkRow) (by repeat constructor)) HW)) ?_
      rintro _ w35 ⟨Ab, cb2, Ac, cc, rfl, Hc⟩
      have H36 := H.call Hc
      refine wl_v rfl rfl rfl (v_move rfl) ?_
      refine wl_v rfl rfl rfl (v_extract rfl rfl) ?_
      refine wl_v rfl rfl rfl (v_extract rfl rfl) ?_
      refine wl_v rfl rfl rfl (v_fb (o2 := 3) fa41_3 rfl rfl) ?_
      refine wl_store (vs := [_]) H36 (by repeat constructor) sz39 rfl rfl rfl rfl rfl (by repeat constructor) ?_
      intro w37 H38 hw37
      refine wl_v rfl rfl rfl (v_fb (o2 := 4) fa41_4 rfl rfl) ?_
      refine wl_store (vs := [_]) H38 (by repeat constructor) sz39 rfl rfl rfl rfl rfl (by repeat constructor) ?_
      intro w39 H40 hw39
      refine wl_nil ?_
      refine wc_seq ?_
      refine wc_region ?_
      refine wl_v rfl rfl rfl (v_move rfl) ?_
      refine wl_v rfl rfl rfl (v_move rfl) ?_
      refine wl_call en41 rfl rfl (laid_calls og (H40.rrR (f := fInt .i64) (e := 39) (e2 := 3) (A := A13) (xss := t.go.map goRow) (by repeat constructor)) (fun x hx => (hgm x hx).1) (fun x hx => Nat.le_trans (hgm x hx).2 (by omega)) (by rw [List.length_map]; omega) (by rw [List.length_map]; omega) (by omega) (by omega) sog.len sog.lt (fun W A15 b2 b6 HW => sog.run _ W _ A15 _ b2 b6 (H40.rrR (f := fInt .i64) (e := 39) (e2 := 3) (A := A13) (xss := t.go.map goRow) (by repeat constructor)) HW)) ?_
      rintro _ w41 ⟨Agb, cgb, Agc, cgc, rfl, Hc⟩
      have H42 := H40.call Hc
      refine wl_v rfl rfl rfl (v_move rfl) ?_
      refine wl_v rfl rfl rfl (v_extract rfl rfl) ?_
      refine wl_v rfl rfl rfl (v_extract rfl rfl) ?_
      refine wl_v rfl rfl rfl (v_fb (o2 := 6) fa41_6 rfl rfl) ?_
      refine wl_store (vs := [_]) H42 (by repeat constructor) sz39 rfl rfl rfl rfl rfl (by repeat constructor) ?_
      intro w43 H44 hw43
      refine wl_v rfl rfl rfl (v_fb (o2 := 7) fa41_7 rfl rfl) ?_
      refine wl_store (vs := [_]) H44 (by repeat constructor) sz39 rfl rfl rfl rfl rfl (by repeat constructor) ?_
      intro w45 H46 hw45
      refine wl_nil ?_
      refine wc_seq ?_
      refine wc_region ?_
      refine wl_v rfl rfl rfl (v_fb (o2 := 4) fa41_4 rfl rfl) ?_
      refine wl_v rfl rfl rfl (v_load one39 rfl (H46.at (by repeat constructor) rfl)) ?_
      refine wl_v rfl rfl rfl (v_len Try.underlying39 rfl) ?_
      refine wl_make (f := fMv) (z' := mv0) H46 rfl Try.underlying38 info48 rfl (by decide) rfl rfl (by omega) (by omega) (by decide) ?_
      intro A121 w47 H47 hs47
      rw [Int.toNat_natCast] at H47 ⊢
      refine wl_v rfl rfl rfl (v_fb (o2 := 5) fa41_5 rfl rfl) ?_
      refine wl_store (vs := [_]) H47 (by repeat constructor) sz38 rfl rfl rfl rfl rfl (by repeat constructor) ?_
      intro w48 H49 hw48
      refine wl_nil ?_
      refine wc_seq ?_
      refine wc_seq ?_
      refine wc_region ?_
      refine wl_v rfl rfl rfl (v_fb (o2 := 4) fa41_4 rfl rfl) ?_
      refine wl_v rfl rfl rfl (v_load one39 rfl (H49.at (by repeat constructor) rfl)) ?_
      refine wl_v rfl rfl rfl (v_len Try.underlying39 rfl) ?_
      refine wl_v rfl rfl rfl (v_move rfl) ?_
      refine wl_nil ?_
      refine wc_block ?_
      refine wc_loop (σ := Nat) (fun s => [(4, .pointer (some ⟨b4, 0, none⟩)), (8, .pointer (some ⟨b8, 0, none⟩)), (11, .pointer (some ⟨b11, 0, none⟩)), (124, .slice Ac (laidF (t.mv.map pkRow) om k).2.length cc), (125, .int .i64 (laidF (t.mv.map pkRow) om k).2.length), (126, .int .i64 s)]) (fun s W => s ≤ (laidF (t.mv.map pkRow) om k).2.length ∧ Holds w [Row fMv 48 (.slice A121 (laidF (t.mv.map pkRow) om k).2.length (laidF (t.mv.map pkRow) om k).2.length) (cellsUpto mv0 (laidF (t.mv.map pkRow) om k).2 (laidF (t.mv.map pkRow) om k).1 t.mv s), Row (fInt .i64) 3 (.slice Ac ((laidF (t.mv.map pkRow) om k).2).length cc) ((laidF (t.mv.map pkRow) om k).2), Row (fInt .i64) 3 (.slice Ab ((laidF (t.mv.map pkRow) om k).1).length cb2) ((laidF (t.mv.map pkRow) om k).1), Row (fInt .i64) 3 (.slice Agc ((laidF (t.go.map goRow) og r).2).length cgc) ((laidF (t.go.map goRow) og r).2), Row (fInt .i64) 3 (.slice Agb ((laidF (t.go.map goRow) og r).1).length cgb) ((laidF (t.go.map goRow) og r).1), Row fMv 48 (.slice Ad ((t.mv.map usualF)).length cd) ((t.mv.map usualF)), Blk b11 41 [.int .i64 k, .int .i64 r, .slice Ad ((t.mv.map usualF)).length cd, .slice Ab ((laidF (t.mv.map pkRow) om k).1).length cb2, .slice Ac ((laidF (t.mv.map pkRow) om k).2).length cc, .slice A121 (laidF (t.mv.map pkRow) om k).2.length (laidF (t.mv.map pkRow) om k).2.length, .slice Agb ((laidF (t.go.map goRow) og r).1).length cgb, .slice Agc ((laidF (t.go.map goRow) og r).2).length cgc, .slice none 0 0], Blk b8 41 [.int .i64 0, .int .i64 0, .slice none 0 0, .slice none 0 0, .slice none 0 0, .slice none 0 0, .slice none 0 0, .slice none 0 0, .slice none 0 0], Blk b4 25 [.slice A t.mv.length ca, .slice B t.go.length cb]] W) (fun s => (laidF (t.mv.map pkRow) om k).2.length - s) 0 (sc rfl (sc rfl (sc rfl (sc rfl (sc rfl (sc rfl (sn _))))))) ⟨Nat.zero_le _, by rw [cellsUpto_zero]; exact H49.pm (by repeat constructor)⟩ ?_
      rintro s W3 ⟨hs, H⟩
      refine wc_seq ?_
      refine wc_region ?_
      refine wl_v rfl rfl rfl (v_lss rfl rfl) ?_
      refine wl_nil ?_
      refine wc_seq ?_
      refine wc_cond rfl (fun c6 => ?_) (fun c6 => ?_)
      · have c6p := of_decide_eq_true c6
        have hsl : s < (laidF (t.mv.map pkRow) om k).2.length := by omega
        have hgd := getD_irrel hsl (-1) 0
        have hchk := H.rrd (f := fInt .i64) (e := 3) (A := Ac) (xs := (laidF (t.mv.map pkRow) om k).2) (by repeat constructor)
        have hcl := cellsUpto_len (z := mv0) (check := (laidF (t.mv.map pkRow) om k).2) (base := (laidF (t.mv.map pkRow) om k).1) (rows := t.mv) (j := s) (by omega)
        have hcell := H.rrd (f := fMv) (e := 48) (A := A121) (xs := cellsUpto mv0 (laidF (t.mv.map pkRow) om k).2 (laidF (t.mv.map pkRow) om k).1 t.mv s) (by repeat constructor)
        have hcellad : 0 < (laidF (t.mv.map pkRow) om k).2.length → A121 = some (adr A121) := fun h => hcell.ad (by omega)
        refine wc_skip ?_
        refine wc_seq ?_
        refine wc_block ?_
        refine wc_seq ?_
        refine wc_region ?_
        refine wl_v rfl rfl rfl (v_move rfl) ?_
        refine wl_v rfl rfl rfl (v_idx Try.underlying39 sz3 hchk.ad rfl rfl (by omega) (by omega)) ?_
        refine wl_v rfl rfl rfl (v_load one3 rfl (hchk.at1N (i := s) (by omega))) ?_
        refine wl_v rfl rfl rfl (v_assign rfl) ?_
        refine wl_v rfl rfl rfl (v_assign rfl) ?_
        refine wl_nil ?_
        refine wc_seq ?_
        refine wc_region ?_
        refine wl_v rfl rfl rfl (v_move rfl) ?_
        refine wl_v rfl rfl rfl (v_geq rfl rfl) ?_
        refine wl_nil ?_
        refine wc_cond rfl (fun c7 => ?_) (fun c7 => ?_)
        · have c7p := of_decide_eq_true c7
          obtain ⟨z1, z2, z3⟩ := laid_cell (src := t.mv) (p := keepM) som rfl hsl c7p
          have r1 := hk.ml (i := ((laidF (t.mv.map pkRow) om k).2.getD s 0).toNat) (by omega)
          refine wc_held 18 18 (fun W => Holds w [Blk b11 41 [.int .i64 k, .int .i64 r, .slice Ad ((t.mv.map usualF)).length cd, .slice Ab ((laidF (t.mv.map pkRow) om k).1).length cb2, .slice Ac ((laidF (t.mv.map pkRow) om k).2).length cc, .slice A121 (laidF (t.mv.map pkRow) om k).2.length (laidF (t.mv.map pkRow) om k).2.length, .slice Agb ((laidF (t.go.map goRow) og r).1).length cgb, .slice Agc ((laidF (t.go.map goRow) og r).2).length cgc, .slice none 0 0], Row (fInt .i64) 3 (.slice Ab ((laidF (t.mv.map pkRow) om k).1).length cb2) ((laidF (t.mv.map pkRow) om k).1), Blk b4 25 [.slice A t.mv.length ca, .slice B t.go.length cb]] W) mixed (by kernel_rfl) (fun _ _ _ h => h) ?_
          have Hd := H.drew
          refine wh_v rfl (Hd.pm (by repeat constructor)) rfl rfl rfl (fun W HW => v_fb (o2 := 5) fa41_5 rfl rfl) ?_
          refine wh_v rfl (Hd.pm (by repeat constructor)) rfl rfl rfl (fun W HW => v_load one38 rfl (HW.at (by repeat constructor) rfl)) ?_
          refine wh_v rfl (Hd.pm (by repeat constructor)) rfl rfl rfl (fun W HW => v_move rfl) ?_
          refine wh_v rfl (Hd.pm (by repeat constructor)) rfl rfl rfl (fun W HW => v_fb (o2 := 0) fa25_0 rfl rfl) ?_
          refine wh_v rfl (Hd.pm (by repeat constructor)) rfl rfl rfl (fun W HW => v_load one22 rfl (HW.at (by repeat constructor) rfl)) ?_
          refine wh_v rfl (Hd.pm (by repeat constructor)) rfl rfl rfl (fun W HW => v_move rfl) ?_
          refine wh_v rfl (Hd.pm (by repeat constructor)) rfl rfl rfl (fun W HW => v_idx Try.underlying22 sz38 hM.ad rfl rfl (by omega) (by omega)) ?_
          obtain ⟨B140, cp140, hc140, hl140, hr140⟩ := hM.atSl (i := ((laidF (t.mv.map pkRow) om k).2.getD s 0)) (by omega) (by omega)
          refine wh_v rfl (Hd.pm (by repeat constructor)) rfl rfl rfl (fun W HW => v_load one38 rfl (HW.cell (hc140))) ?_
          refine wh_v rfl (Hd.pm (by repeat constructor)) rfl rfl rfl (fun W HW => v_move rfl) ?_
          refine wh_v rfl (Hd.pm (by repeat constructor)) rfl rfl rfl (fun W HW => v_fb (o2 := 3) fa41_3 rfl rfl) ?_
          refine wh_v rfl (Hd.pm (by repeat constructor)) rfl rfl rfl (fun W HW => v_load one39 rfl (HW.at (by repeat constructor) rfl)) ?_
          refine wh_v rfl (Hd.pm (by repeat constructor)) rfl rfl rfl (fun W HW => v_move rfl) ?_
          refine wh_v rfl (Hd.pm (by repeat constructor)) rfl rfl rfl (fun W HW => v_idx Try.underlying39 sz3 (HW.rrd (f := fInt .i64) (e := 3) (A := Ab) (xs := (laidF (t.mv.map pkRow) om k).1) (by repeat constructor)).ad rfl rfl (by omega) (by omega)) ?_
          refine wh_v rfl (Hd.pm (by repeat constructor)) rfl rfl rfl (fun W HW => v_load one3 rfl ((HW.rrd (f := fInt .i64) (e := 3) (A := Ab) (xs := (laidF (t.mv.map pkRow) om k).1) (by repeat constructor)).at1 (by omega) (by omega))) ?_
          refine wh_v rfl (Hd.pm (by repeat constructor)) rfl rfl rfl (fun W HW => v_subi rfl rfl (by omega)) ?_
          refine wh_v rfl (Hd.pm (by repeat constructor)) rfl rfl rfl (fun W HW => v_idx Try.underlying38 sz48 hr140.ad rfl rfl (by omega) (by omega)) ?_
          refine wh_v rfl (Hd.pm (by repeat constructor)) rfl rfl rfl (fun W HW => v_loadN (cs := fMv.enc _) agg48 rfl rfl (fun k u hu => HW.cell (hr140.at (k := k) mv0 (by omega) (by omega) hu))) ?_
          refine wh_v rfl (Hd.pm (by repeat constructor)) rfl rfl rfl (fun W HW => v_idx Try.underlying38 sz48 hcellad rfl rfl (by omega) (by omega)) ?_
          refine wh_t rfl ?_
          refine wl_storeR (f := fMv) (xs := cellsUpto mv0 (laidF (t.mv.map pkRow) om k).2 (laidF (t.mv.map pkRow) om k).1 t.mv s) (i := (s : Int)) (x' := (t.mv.getD ((laidF (t.mv.map pkRow) om k).2.getD s 0).toNat []).getD ((s : Int) - (laidF (t.mv.map pkRow) om k).1.getD ((laidF (t.mv.map pkRow) om k).2.getD s 0).toNat 0).toNat mv0) Hd (by repeat constructor) sz48 rfl rfl rfl (by omega) (by omega) ?_
          intro w50 H50
          refine wl_nil (tn ⟨fun hlt => absurd hlt (by decide), ?_⟩)
          refine wh_nil ?_
          refine wc_region ?_
          refine wl_v rfl rfl rfl (v_addi rfl rfl (by omega)) ?_
          refine wl_v rfl rfl rfl (v_move rfl) ?_
          refine wl_nil ?_
          first
            | exact ⟨s + 1, (sc rfl (sc rfl (sc rfl (sc rfl (sc rfl (sc rfl (sn _))))))), ⟨by omega, by rw [cellsUpto_next hsl, hgd, if_pos c7p]; exact H50.pm (by repeat constructor)⟩, by omega⟩
            | exact ⟨s + 1, (sc rfl (sc rfl (sc rfl (sc rfl (sc rfl (sc rfl (sn _))))))), ⟨by omega, by rw [cellsUpto_skip hsl (by rw [hgd]; exact c7p)]; exact H50.pm (by repeat constructor)⟩, by omega⟩
        · have c7p := of_decide_eq_false c7
          refine wc_skip ?_
          refine wc_region ?_
          refine wl_v rfl rfl rfl (v_addi rfl rfl (by omega)) ?_
          refine wl_v rfl rfl rfl (v_move rfl) ?_
          refine wl_nil ?_
          first
            | exact ⟨s + 1, (sc rfl (sc rfl (sc rfl (sc rfl (sc rfl (sc rfl (sn _))))))), ⟨by omega, by rw [cellsUpto_next hsl, hgd, if_pos c7p]; exact H.pm (by repeat constructor)⟩, by omega⟩
            | exact ⟨s + 1, (sc rfl (sc rfl (sc rfl (sc rfl (sc rfl (sc rfl (sn _))))))), ⟨by omega, by rw [cellsUpto_skip hsl (by rw [hgd]; exact c7p)]; exact H.pm (by repeat constructor)⟩, by omega⟩
      · have c6p := of_decide_eq_false c6
        have hje : s = (laidF (t.mv.map pkRow) om k).2.length := by omega
        subst hje
        refine wc_exit ?_
        refine wc_seq ?_
        refine wc_region ?_
        refine wl_v rfl rfl rfl (v_fb (o2 := 7) fa41_7 rfl rfl) ?_
        refine wl_v rfl rfl rfl (v_load one39 rfl (H.at (by repeat constructor) rfl)) ?_
        refine wl_v rfl rfl rfl (v_len Try.underlying39 rfl) ?_
        refine wl_make (f := fInt .i64) (z' := 0) H rfl Try.underlying39 info3 rfl (by decide) rfl rfl (by omega) (by omega) (by decide) ?_
        intro A155 w51 H51 hs51
        rw [Int.toNat_natCast] at H51 ⊢
        refine wl_v rfl rfl rfl (v_fb (o2 := 8) fa41_8 rfl rfl) ?_
        refine wl_store (vs := [_]) H51 (by repeat constructor) sz39 rfl rfl rfl rfl rfl (by repeat constructor) ?_
        intro w52 H53 hw52
        refine wl_nil ?_
        refine wc_seq ?_
        refine wc_seq ?_
        refine wc_region ?_
        refine wl_v rfl rfl rfl (v_fb (o2 := 7) fa41_7 rfl rfl) ?_
        refine wl_v rfl rfl rfl (v_load one39 rfl (H53.at (by repeat constructor) rfl)) ?_
        refine wl_v rfl rfl rfl (v_len Try.underlying39 rfl) ?_
        refine wl_v rfl rfl rfl (v_move rfl) ?_
        refine wl_nil ?_
        refine wc_block ?_
        refine wc_loop (σ := Nat) (fun s => [(4, .pointer (some ⟨b4, 0, none⟩)), (8, .pointer (some ⟨b8, 0, none⟩)), (11, .pointer (some ⟨b11, 0, none⟩)), (158, .slice Agc (laidF (t.go.map goRow) og r).2.length cgc), (159, .int .i64 (laidF (t.go.map goRow) og r).2.length), (160, .int .i64 s)]) (fun s W => s ≤ (laidF (t.go.map goRow) og r).2.length ∧ Holds w [Row (fInt .i64) 3 (.slice A155 (laidF (t.go.map goRow) og r).2.length (laidF (t.go.map goRow) og r).2.length) (cellsUpto 0 (laidF (t.go.map goRow) og r).2 (laidF (t.go.map goRow) og r).1 t.go s), Row fMv 48 (.slice A121 (laidF (t.mv.map pkRow) om k).2.length (laidF (t.mv.map pkRow) om k).2.length) (cellsUpto mv0 (laidF (t.mv.map pkRow) om k).2 (laidF (t.mv.map pkRow) om k).1 t.mv (laidF (t.mv.map pkRow) om k).2.length), Row (fInt .i64) 3 (.slice Ac ((laidF (t.mv.map pkRow) om k).2).length cc) ((laidF (t.mv.map pkRow) om k).2), Row (fInt .i64) 3 (.slice Ab ((laidF (t.mv.map pkRow) om k).1).length cb2) ((laidF (t.mv.map pkRow) om k).1), Row (fInt .i64) 3 (.slice Agc ((laidF (t.go.map goRow) og r).2).length cgc) ((laidF (t.go.map goRow) og r).2), Row (fInt .i64) 3 (.slice Agb ((laidF (t.go.map goRow) og r).1).length cgb) ((laidF (t.go.map goRow) og r).1), Row fMv 48 (.slice Ad ((t.mv.map usualF)).length cd) ((t.mv.map usualF)), Blk b11 41 [.int .i64 k, .int .i64 r, .slice Ad ((t.mv.map usualF)).length cd, .slice Ab ((laidF (t.mv.map pkRow) om k).1).length cb2, .slice Ac ((laidF (t.mv.map pkRow) om k).2).length cc, .slice A121 (laidF (t.mv.map pkRow) om k).2.length (laidF (t.mv.map pkRow) om k).2.length, .slice Agb ((laidF (t.go.map goRow) og r).1).length cgb, .slice Agc ((laidF (t.go.map goRow) og r).2).length cgc, .slice A155 (laidF (t.go.map goRow) og r).2.length (laidF (t.go.map goRow) og r).2.length], Blk b8 41 [.int .i64 0, .int .i64 0, .slice none 0 0, .slice none 0 0, .slice none 0 0, .slice none 0 0, .slice none 0 0, .slice none 0 0, .slice none 0 0], Blk b4 25 [.slice A t.mv.length ca, .slice B t.go.length cb]] W) (fun s => (laidF (t.go.map goRow) og r).2.length - s) 0 (sc rfl (sc rfl (sc rfl (sc rfl (sc rfl (sc rfl (sn _))))))) ⟨Nat.zero_le _, by rw [cellsUpto_zero]; exact H53.pm (by repeat constructor)⟩ ?_
        rintro s W4 ⟨hs, H⟩
        refine wc_seq ?_
        refine wc_region ?_
        refine wl_v rfl rfl rfl (v_lss rfl rfl) ?_
        refine wl_nil ?_
        refine wc_seq ?_
        refine wc_cond rfl (fun c8 => ?_) (fun c8 => ?_)
        · have c8p := of_decide_eq_true c8
          have hsl : s < (laidF (t.go.map goRow) og r).2.length := by omega
          have hgd := getD_irrel hsl (-1) 0
          have hchk := H.rrd (f := fInt .i64) (e := 3) (A := Agc) (xs := (laidF (t.go.map goRow) og r).2) (by repeat constructor)
          have hcl := cellsUpto_len (z := (0 : Int)) (check := (laidF (t.go.map goRow) og r).2) (base := (laidF (t.go.map goRow) og r).1) (rows := t.go) (j := s) (by omega)
          have hcell := H.rrd (f := fInt .i64) (e := 3) (A := A155) (xs := cellsUpto 0 (laidF (t.go.map goRow) og r).2 (laidF (t.go.map goRow) og r).1 t.go s) (by repeat constructor)
          have hcellad : 0 < (laidF (t.go.map goRow) og r).2.length → A155 = some (adr A155) := fun h => hcell.ad (by omega)
          refine wc_skip ?_
          refine wc_seq ?_
          refine wc_block ?_
          refine wc_seq ?_
          refine wc_region ?_
          refine wl_v rfl rfl rfl (v_move rfl) ?_
          refine wl_v rfl rfl rfl (v_idx Try.underlying39 sz3 hchk.ad rfl rfl (by omega) (by omega)) ?_
          refine wl_v rfl rfl rfl (v_load one3 rfl (hchk.at1N (i := s) (by omega))) ?_
          refine wl_v rfl rfl rfl (v_assign rfl) ?_
          refine wl_v rfl rfl rfl (v_assign rfl) ?_
          refine wl_nil ?_
          refine wc_seq ?_
          refine wc_region ?_
          refine wl_v rfl rfl rfl (v_move rfl) ?_
          refine wl_v rfl rfl rfl (v_geq rfl rfl) ?_
          refine wl_nil ?_
          refine wc_cond rfl (fun c9 => ?_) (fun c9 => ?_)
          · have c9p := of_decide_eq_true c9
            obtain ⟨z1, z2, z3⟩ := laid_cell (src := t.go) (p := keepG) sog rfl hsl c9p
            have r1 := hk.gl (i := ((laidF (t.go.map goRow) og r).2.getD s 0).toNat) (by omega)
            refine wc_held 18 18 (fun W => Holds w [Blk b11 41 [.int .i64 k, .int .i64 r, .slice Ad ((t.mv.map usualF)).length cd, .slice Ab ((laidF (t.mv.map pkRow) om k).1).length cb2, .slice Ac ((laidF (t.mv.map pkRow) om k).2).length cc, .slice A121 (laidF (t.mv.map pkRow) om k).2.length (laidF (t.mv.map pkRow) om k).2.length, .slice Agb ((laidF (t.go.map goRow) og r).1).length cgb, .slice Agc ((laidF (t.go.map goRow) og r).2).length cgc, .slice A155 (laidF (t.go.map goRow) og r).2.length (laidF (t.go.map goRow) og r).2.length], Row (fInt .i64) 3 (.slice Agb ((laidF (t.go.map goRow) og r).1).length cgb) ((laidF (t.go.map goRow) og r).1), Blk b4 25 [.slice A t.mv.length ca, .slice B t.go.length cb]] W) mixed (by kernel_rfl) (fun _ _ _ h => h) ?_
            have Hd := H.drew
            refine wh_v rfl (Hd.pm (by repeat constructor)) rfl rfl rfl (fun W HW => v_fb (o2 := 8) fa41_8 rfl rfl) ?_
            refine wh_v rfl (Hd.pm (by repeat constructor)) rfl rfl rfl (fun W HW => v_load one39 rfl (HW.at (by repeat constructor) rfl)) ?_
            refine wh_v rfl (Hd.pm (by repeat constructor)) rfl rfl rfl (fun W HW => v_move rfl) ?_
            refine wh_v rfl (Hd.pm (by repeat constructor)) rfl rfl rfl (fun W HW => v_fb (o2 := 1) fa25_1 rfl rfl) ?_
            refine wh_v rfl (Hd.pm (by repeat constructor)) rfl rfl rfl (fun W HW => v_load one23 rfl (HW.at (by repeat constructor) rfl)) ?_
            refine wh_v rfl (Hd.pm (by repeat constructor)) rfl rfl rfl (fun W HW => v_move rfl) ?_
            refine wh_v rfl (Hd.pm (by repeat constructor)) rfl rfl rfl (fun W HW => v_idx Try.underlying23 sz39 hG.ad rfl rfl (by omega) (by omega)) ?_
            obtain ⟨B174, cp174, hc174, hl174, hr174⟩ := hG.atSl (i := ((laidF (t.go.map goRow) og r).2.getD s 0)) (by omega) (by omega)
            refine wh_v rfl (Hd.pm (by repeat constructor)) rfl rfl rfl (fun W HW => v_load one39 rfl (HW.cell (hc174))) ?_
            refine wh_v rfl (Hd.pm (by repeat constructor)) rfl rfl rfl (fun W HW => v_move rfl) ?_
            refine wh_v rfl (Hd.pm (by repeat constructor)) rfl rfl rfl (fun W HW => v_fb (o2 := 6) fa41_6 rfl rfl) ?_
            refine wh_v rfl (Hd.pm (by repeat constructor)) rfl rfl rfl (fun W HW => v_load one39 rfl (HW.at (by repeat constructor) rfl)) ?_
            refine wh_v rfl (Hd.pm (by repeat constructor)) rfl rfl rfl (fun W HW => v_move rfl) ?_
            refine wh_v rfl (Hd.pm (by repeat constructor)) rfl rfl rfl (fun W HW => v_idx Try.underlying39 sz3 (HW.rrd (f := fInt .i64) (e := 3) (A := Agb) (xs := (laidF (t.go.map goRow) og r).1) (by repeat constructor)).ad rfl rfl (by omega) (by omega)) ?_
            refine wh_v rfl (Hd.pm (by repeat constructor)) rfl rfl rfl (fun W HW => v_load one3 rfl ((HW.rrd (f := fInt .i64) (e := 3) (A := Agb) (xs := (laidF (t.go.map goRow) og r).1) (by repeat constructor)).at1 (by omega) (by omega))) ?_
            refine wh_v rfl (Hd.pm (by repeat constructor)) rfl rfl rfl (fun W HW => v_subi rfl rfl (by omega)) ?_
            refine wh_v rfl (Hd.pm (by repeat constructor)) rfl rfl rfl (fun W HW => v_idx Try.underlying39 sz3 hr174.ad rfl rfl (by omega) (by omega)) ?_
            refine wh_v rfl (Hd.pm (by repeat constructor)) rfl rfl rfl (fun W HW => v_load one3 rfl (HW.cell (hr174.at1 (by omega) (by omega)))) ?_
            refine wh_v rfl (Hd.pm (by repeat constructor)) rfl rfl rfl (fun W HW => v_idx Try.underlying39 sz3 hcellad rfl rfl (by omega) (by omega)) ?_
            refine wh_t rfl ?_
            refine wl_storeR (f := fInt .i64) (xs := cellsUpto 0 (laidF (t.go.map goRow) og r).2 (laidF (t.go.map goRow) og r).1 t.go s) (i := (s : Int)) (x' := (t.go.getD ((laidF (t.go.map goRow) og r).2.getD s 0).toNat []).getD ((s : Int) - (laidF (t.go.map goRow) og r).1.getD ((laidF (t.go.map goRow) og r).2.getD s 0).toNat 0).toNat 0) Hd (by repeat constructor) sz3 rfl rfl rfl (by omega) (by omega) ?_
            intro w54 H54
            refine wl_nil (tn ⟨fun hlt => absurd hlt (by decide), ?_⟩)
            refine wh_nil ?_
            refine wc_region ?_
            refine wl_v rfl rfl rfl (v_addi rfl rfl (by omega)) ?_
            refine wl_v rfl rfl rfl (v_move rfl) ?_
            refine wl_nil ?_
            first
              | exact ⟨s + 1, (sc rfl (sc rfl (sc rfl (sc rfl (sc rfl (sc rfl (sn _))))))), ⟨by omega, by rw [cellsUpto_next hsl, hgd, if_pos c9p]; exact H54.pm (by repeat constructor)⟩, by omega⟩
              | exact ⟨s + 1, (sc rfl (sc rfl (sc rfl (sc rfl (sc rfl (sc rfl (sn _))))))), ⟨by omega, by rw [cellsUpto_skip hsl (by rw [hgd]; exact c9p)]; exact H54.pm (by repeat constructor)⟩, by omega⟩
          · have c9p := of_decide_eq_false c9
            refine wc_skip ?_
            refine wc_region ?_
            refine wl_v rfl rfl rfl (v_addi rfl rfl (by omega)) ?_
            refine wl_v rfl rfl rfl (v_move rfl) ?_
            refine wl_nil ?_
            first
              | exact ⟨s + 1, (sc rfl (sc rfl (sc rfl (sc rfl (sc rfl (sc rfl (sn _))))))), ⟨by omega, by rw [cellsUpto_next hsl, hgd, if_pos c9p]; exact H.pm (by repeat constructor)⟩, by omega⟩
              | exact ⟨s + 1, (sc rfl (sc rfl (sc rfl (sc rfl (sc rfl (sc rfl (sn _))))))), ⟨by omega, by rw [cellsUpto_skip hsl (by rw [hgd]; exact c9p)]; exact H.pm (by repeat constructor)⟩, by omega⟩
        · have c8p := of_decide_eq_false c8
          have hje : s = (laidF (t.go.map goRow) og r).2.length := by omega
          subst hje
          refine wc_exit ?_
          refine wc_seq ?_
          refine wc_region ?_
          refine wl_v rfl rfl rfl (v_loadN agg41 rfl rfl (H.ats (by repeat constructor))) ?_
          refine wl_store (vs := [_, _, _, _, _, _, _, _, _]) H (by repeat constructor) sz41 rfl rfl rfl rfl rfl (by repeat constructor) ?_
          intro w55 H56 hw55
          refine wl_v rfl rfl rfl (v_assign rfl) ?_
          refine wl_nil ?_
          refine wc_ret ?_
          first
            | exact ⟨_, resc2 rfl rfl (run_loadVarN agg41 rfl (H56.ats (by repeat constructor))) rfl, ⟨none, none, none, none, none, none, none, 0, 0, 0, 0, 0, 0, 0⟩, by rw [pkAns, if_neg c0p]; rfl, by rw [pkAns, if_neg c0p]; exact (((((((H56.nilrow 48 2).nilrow 3 1).nilrow 3 1).nilrow 48 2).nilrow 3 1).nilrow 3 1).nilrow 3 1).pm (by repeat constructor)⟩
            | (have hcl1 := cellsUpto_len (z := mv0) (check := (laidF (t.mv.map pkRow) om k).2) (base := (laidF (t.mv.map pkRow) om k).1) (rows := t.mv) (Nat.le_refl _)
               have hcl2 := cellsUpto_len (z := (0 : Int)) (check := (laidF (t.go.map goRow) og r).2) (base := (laidF (t.go.map goRow) og r).1) (rows := t.go) (Nat.le_refl _)
               refine ⟨_, resc2 rfl rfl (run_loadVarN agg41 rfl (H56.ats (by repeat constructor))) rfl, ⟨Ad, Ab, Ac, A121, Agb, Agc, A155, cd, cb2, cc, (laidF (t.mv.map pkRow) om k).2.length, cgb, cgc, (laidF (t.go.map goRow) og r).2.length⟩, ?_, ?_⟩
               · rw [show pkAns t k r p om og = packF t k r om og by rw [pkAns, if_pos c0p], c0p]
                 simp only [Pk.val, packF, hcl1, hcl2]
               · rw [show pkAns t k r p om og = packF t k r om og by rw [pkAns, if_pos c0p]]
                 simp only [OwnP, packF, hcl1, hcl2]
                 exact H56.pm (by repeat constructor))
end Go.Proofs.Ytkpehkadammppaa.PackW

/-! Numbers, seven bits a byte: plain; bit operations and divisions. -/
namespace Go.Proofs.YtkpehkadammppaaFx
open Go Go.RowKit
section
variable {P : Program} {n : Nat} {l : Fr} {w : World} {x y : Operand} {ty t t2 : TypeId} {pos : String} {af : Array Edge} {gd : Option (Nat × Bool)} {dst : Option Tmp} {i j : Int} {k : IntKind}
theorem v_and (hx : ev l x = some (.int k i)) (hy : ev l y = some (.int k j)) : Vs P n l ⟨dst, .binOp .and t x y t2, ty, pos, af, gd⟩ w (.int k (bits .and k i j)) := fun a ha => by simp [execOp, ha.eval hx, ha.eval hy, eqGuard_at_int, binOp_and, intBits_and]
theorem v_or (hx : ev l x = some (.int k i)) (hy : ev l y = some (.int k j)) : Vs P n l ⟨dst, .binOp .or t x y t2, ty, pos, af, gd⟩ w (.int k (bits .or k i j)) := fun a ha => by simp [execOp, ha.eval hx, ha.eval hy, eqGuard_at_int, binOp_or, intBits_or]
theorem v_rem (hx : ev l x = some (.int k i)) (hy : ev l y = some (.int k j)) (h0 : j ≠ 0) : Vs P n l ⟨dst, .binOp .rem t x y t2, ty, pos, af, gd⟩ w (.int k (Int.tmod i j)) := fun a ha => by
  simp [execOp, ha.eval hx, ha.eval hy, eqGuard_at_int, binOp_rem, Op.intDiv, h0]
theorem v_quo (hx : ev l x = some (.int k i)) (hy : ev l y = some (.int k j)) (h0 : j ≠ 0) : Vs P n l ⟨dst, .binOp .quo t x y t2, ty, pos, af, gd⟩ w (.int k (k.wrap (Int.tdiv i j))) := fun a ha => by
  simp [execOp, ha.eval hx, ha.eval hy, eqGuard_at_int, binOp_quo, Op.intDiv, h0]
end
theorem or128 {a : Int} (h : 0 ≤ a ∧ a < 256) : bits .or .u8 a 128 = a % 128 + 128 := by
  obtain ⟨n, rfl⟩ := Int.eq_ofNat_of_zero_le h.1
  have hn : n < 256 := by omega
  have h1 := (bits_nat .u8 8 (by decide) wraps_u8 n 128 (by simpa using hn) (by decide)).2
  have h2 : ∀ n : Fin 256, (n.1 ||| 128) = n.1 % 128 + 128 := by decide +kernel
  have h3 := h2 ⟨n, hn⟩
  dsimp only at h3
  rw [show (128 : Int) = ((128 : Nat) : Int) from rfl, h1, h3]
  omega
theorem and127 {a : Int} (h : 0 ≤ a ∧ a < 256) : bits .and .u8 a 127 = a % 128 := bits_mask .u8 8 (by decide) wraps_u8 7 (by decide) a h.1 (by have := h.2; omega)
theorem wraps_i64 (n : Int) (h₀ : 0 ≤ n) (h₁ : n < 2 ^ 62) : IntKind.i64.wrap n = n := by rw [IntKind.wrap_i64]; omega
theorem or_low {a c s : Nat} (ha : a < 2 ^ s) (hc : c * 2 ^ s < 2 ^ 62) (ha2 : a < 2 ^ 62) : bits .or .i64 (a : Int) ((c * 2 ^ s : Nat) : Int) = ((a + c * 2 ^ s : Nat) : Int) := by
  rw [(bits_nat .i64 62 (by decide) wraps_i64 a (c * 2 ^ s) ha2 hc).2, Nat.or_comm, Nat.mul_comm c, ← Nat.two_pow_add_eq_or_of_lt ha, Nat.add_comm]
/-- A number's bytes. -/
def vint (n : Nat) : List Int := if n < 128 then [(n : Int)] else ((n % 128 + 128 : Nat) : Int) :: vint (n / 128)
termination_by n
theorem vint_lt {n : Nat} (h : n < 128) : vint n = [(n : Int)] := by rw [vint, if_pos h]
theorem vint_ge {n : Nat} (h : ¬ n < 128) : vint n = ((n % 128 + 128 : Nat) : Int) :: vint (n / 128) := by rw [vint, if_neg h]
theorem vint_len : ∀ (k n : Nat), n < 128 ^ k → 1 ≤ k → (vint n).length ≤ k
  | 0, _, _, h => by omega
  | k + 1, n, h, _ => by
    rcases Nat.lt_or_ge n 128 with h1 | h1
    · rw [vint_lt h1]; simp
    · rw [vint_ge (by omega), List.length_cons]
      rcases Nat.eq_zero_or_pos k with rfl | hk
      · simp at h; omega
      · have := vint_len k (n / 128) (by rw [Nat.pow_succ] at h; exact Nat.div_lt_of_lt_mul (by rw [Nat.mul_comm]; exact h)) hk
        omega
theorem vint_pos (n : Nat) : 1 ≤ (vint n).length := by
  rcases Nat.lt_or_ge n 128 with h1 | h1
  · rw [vint_lt h1]; simp
  · rw [vint_ge (by omega), List.length_cons]; omega
theorem vint_bytes : ∀ (n : Nat), ∀ x ∈ vint n, 0 ≤ x ∧ x < 256 := by
  intro n
  induction n using Nat.strongRecOn with
  | _ n ih =>
    intro x hx
    rcases Nat.lt_or_ge n 128 with h1 | h1
    · rw [vint_lt h1, List.mem_singleton] at hx; omega
    · rw [vint_ge (by omega)] at hx
      rcases List.mem_cons.1 hx with rfl | hx
      · omega
      · exact ih (n / 128) (by omega) x hx
/-- A number read: at most k bytes are left, acc is what was read, sh its bits. -/
def numG : Nat → Nat → Nat → List Int → Option (Nat × List Int)
  | 0, _, _, _ => none
  | _ + 1, _, _, [] => none
  | k + 1, acc, sh, c :: r =>
    if c < 128 then if (c = 0 ∧ 0 < sh) ∨ 2147483647 < acc + (c.toNat % 128) * 2 ^ sh then none else some (acc + (c.toNat % 128) * 2 ^ sh, r)
    else numG k (acc + (c.toNat % 128) * 2 ^ sh) (sh + 7) r
def num (bs : List Int) : Option (Nat × List Int) := numG 5 0 0 bs
def Bytes (bs : List Int) : Prop := ∀ x ∈ bs, 0 ≤ x ∧ x < 256
theorem numG_big : ∀ (k acc sh : Nat) (bs : List Int), 2147483647 < acc → numG k acc sh bs = none
  | 0, _, _, _, _ => rfl
  | _ + 1, _, _, [], _ => rfl
  | k + 1, acc, sh, c :: r, h => by
    unfold numG
    split
    · rw [if_pos (.inr (by omega))]
    · exact numG_big k _ _ r (by omega)
theorem numG_vint : ∀ (k acc sh m : Nat) (r : List Int), m < 128 ^ k → 1 ≤ k → acc + m * 2 ^ sh ≤ 2147483647 → (m ≠ 0 ∨ sh = 0) → numG k acc sh (vint m ++ r) = some (acc + m * 2 ^ sh, r)
  | 0, acc, sh, m, r, h, h0, h2, h3 => by omega
  | k + 1, acc, sh, m, r, h, h0, h2, h3 => by
    have hdiv : m / 128 < 128 ^ k := by rw [Nat.pow_succ] at h; exact Nat.div_lt_of_lt_mul (by rw [Nat.mul_comm]; exact h)
    rcases Nat.lt_or_ge m 128 with h1 | h1
    · rw [vint_lt h1]
      show numG (k + 1) acc sh ((m : Int) :: r) = _
      unfold numG
      rw [if_pos (by omega), Int.toNat_natCast, Nat.mod_eq_of_lt h1, if_neg (by omega)]
    · rw [vint_ge (by omega)]
      show numG (k + 1) acc sh (((m % 128 + 128 : Nat) : Int) :: (vint (m / 128) ++ r)) = _
      have e1 : (m % 128 + 128) % 128 = m % 128 := by omega
      have e2 : acc + m % 128 * 2 ^ sh + m / 128 * 2 ^ (sh + 7) = acc + m * 2 ^ sh := by
        have h5 : m / 128 * 2 ^ (sh + 7) = (m / 128 * 128) * 2 ^ sh := by rw [Nat.pow_add, Nat.mul_comm (2 ^ sh), ← Nat.mul_assoc]
        have h6 : m % 128 + m / 128 * 128 = m := Nat.mod_add_div' m 128
        rw [h5, Nat.add_assoc, ← Nat.add_mul, h6]
      unfold numG
      rw [if_neg (by omega), Int.toNat_natCast, e1]
      have := numG_vint k (acc + m % 128 * 2 ^ sh) (sh + 7) (m / 128) r hdiv (by
        rcases Nat.eq_zero_or_pos k with rfl | hk
        · simp at h; omega
        · exact hk) (by rw [e2]; exact h2) (.inl (by omega))
      rw [this, e2]
theorem numG_is : ∀ (k acc sh n : Nat) (bs r : List Int), Bytes bs → numG k acc sh bs = some (n, r) → ∃ m, bs = vint m ++ r ∧ n = acc + m * 2 ^ sh ∧ n ≤ 2147483647 ∧ (m ≠ 0 ∨ sh = 0)
  | 0, _, _, _, _, _, _, h => by simp [numG] at h
  | _ + 1, _, _, _, [], _, _, h => by simp [numG] at h
  | k + 1, acc, sh, n, c :: r0, r, hB, h => by
    have hc := hB c (List.mem_cons_self ..)
    unfold numG at h
    split at h
    · rename_i h1
      split at h
      · cases h
      · rename_i h2
        injection h with h
        injection h with h3 h4
        subst h4
        have e : c.toNat % 128 = c.toNat := by omega
        rw [e] at h2 h3
        refine ⟨c.toNat, ?_, h3.symm, by omega, by omega⟩
        rw [vint_lt (by omega)]
        show c :: r0 = (c.toNat : Int) :: r0
        rw [Int.toNat_of_nonneg hc.1]
    · rename_i h1
      obtain ⟨m, rfl, hn, hle, hm⟩ := numG_is k _ _ n r0 r (fun x hx => hB x (List.mem_cons_of_mem _ hx)) h
      have hm0 : m ≠ 0 := hm.resolve_right (by omega)
      have e0 : c.toNat % 128 = c.toNat - 128 := by omega
      refine ⟨(c.toNat - 128) + 128 * m, ?_, ?_, hle, .inl (by omega)⟩
      · rw [vint_ge (n := (c.toNat - 128) + 128 * m) (by omega)]
        have e1 : ((c.toNat - 128) + 128 * m) % 128 + 128 = c.toNat := by omega
        have e2 : ((c.toNat - 128) + 128 * m) / 128 = m := by omega
        rw [e1, e2, Int.toNat_of_nonneg hc.1]
        rfl
      · rw [hn, e0, Nat.add_assoc]
        congr 1
        rw [Nat.add_mul, Nat.pow_add]
        congr 1
        rw [Nat.mul_comm 128 m, Nat.mul_assoc, Nat.mul_comm 128]
theorem num_vint {n : Nat} (r : List Int) (h : n ≤ 2147483647) : num (vint n ++ r) = some (n, r) := by
  have := numG_vint 5 0 0 n r (by simp only [Nat.reducePow]; omega) (by decide) (by simpa using h) (.inr rfl)
  simpa [num] using this
theorem num_is {n : Nat} {bs r : List Int} (hB : Bytes bs) (h : num bs = some (n, r)) : bs = vint n ++ r ∧ n ≤ 2147483647 := by
  obtain ⟨m, h1, h2, h3, _⟩ := numG_is 5 0 0 n bs r hB h
  rw [Nat.pow_zero, Nat.mul_one, Nat.zero_add] at h2
  subst h2
  exact ⟨h1, h3⟩
end Go.Proofs.YtkpehkadammppaaFx

/-! A table's bytes: plain. -/
namespace Go.Proofs.YtkpehkadammppaaFx
open Go Go.RowKit
def okMv (m : Mv) : Prop := 0 ≤ m.d ∧ m.d ≤ 2147483647 ∧ 0 ≤ m.n ∧ m.n ≤ 2147483647
def okGo (x : Int) : Prop := -1 ≤ x ∧ x < 2147483647
def mvB (m : Mv) : List Int := vint m.d.toNat ++ vint m.n.toNat
def goB (x : Int) : List Int := vint (x + 1).toNat
def mvsB (ms : List Mv) : List Int := ms.flatMap mvB
def gosB (xs : List Int) : List Int := xs.flatMap goB
def rowB (t : Tb) (s : Nat) : List Int := mvsB (t.mv.getD s []) ++ gosB (t.go.getD s [])
def rowsB (t : Tb) (i : Nat) : List Int := (List.range i).flatMap (rowB t)
def headB (t : Tb) : List Int := vint t.mv.length ++ vint (t.mv.getD 0 []).length ++ vint (t.go.getD 0 []).length
def tbB (t : Tb) : List Int := headB t ++ rowsB t t.mv.length
def RowOk2 (t : Tb) (s : Nat) : Prop := (∀ m ∈ t.mv.getD s [], okMv m) ∧ ∀ x ∈ t.go.getD s [], okGo x
def ByOk (t : Tb) : Prop := Rect t ∧ ∀ s, s < t.mv.length → RowOk2 t s
noncomputable def bytesA (t : Tb) : List Int := if dec (ByOk t) then tbB t else []
noncomputable def bytesE (t : Tb) : Int := if dec (ByOk t) then 0 else 170
theorem by_t {t : Tb} (h : ByOk t) : bytesA t = tbB t ∧ bytesE t = 0 := by rw [bytesA, bytesE, dec_t h]; exact ⟨rfl, rfl⟩
theorem by_f {t : Tb} (h : ¬ ByOk t) : bytesA t = [] ∧ bytesE t = 170 := by rw [bytesA, bytesE, dec_f h]; exact ⟨rfl, rfl⟩
/-- A table of bulk at most the bound. -/
structure BSm (t : Tb) : Prop where
  ok : t.ok
  m : t.mv.length ≤ 1048576
  mr : ∀ r ∈ t.mv, r.length ≤ 1048576
  gr : ∀ r ∈ t.go, r.length ≤ 1048576
theorem BSm.ml {t : Tb} (h : BSm t) {i : Nat} (hi : i < t.mv.length) : (t.mv.getD i []).length ≤ 1048576 := h.mr _ (getD_mem hi)
theorem BSm.gl {t : Tb} (h : BSm t) {i : Nat} (hi : i < t.go.length) : (t.go.getD i []).length ≤ 1048576 := h.gr _ (getD_mem hi)
theorem vint5 {n : Nat} (h : n ≤ 2147483647) : (vint n).length ≤ 5 := vint_len 5 n (by simp only [Nat.reducePow]; omega) (by decide)
theorem mvsB_len {ms : List Mv} (h : ∀ m ∈ ms, okMv m) : (mvsB ms).length ≤ 10 * ms.length := by
  induction ms with
  | nil => simp [mvsB]
  | cons m r ih =>
    have h1 := ih fun x hx => h x (List.mem_cons_of_mem _ hx)
    obtain ⟨h2, h3, h4, h5⟩ := h m (List.mem_cons_self ..)
    have v1 := vint5 (n := m.d.toNat) (by omega)
    have v2 := vint5 (n := m.n.toNat) (by omega)
    show (mvB m ++ mvsB r).length ≤ _
    rw [List.length_append, mvB, List.length_append, List.length_cons]
    omega
theorem gosB_len {xs : List Int} (h : ∀ x ∈ xs, okGo x) : (gosB xs).length ≤ 5 * xs.length := by
  induction xs with
  | nil => simp [gosB]
  | cons m r ih =>
    have h1 := ih fun x hx => h x (List.mem_cons_of_mem _ hx)
    obtain ⟨h2, h3⟩ := h m (List.mem_cons_self ..)
    have v1 := vint5 (n := (m + 1).toNat) (by omega)
    show (goB m ++ gosB r).length ≤ _
    rw [List.length_append, goB, List.length_cons]
    omega
theorem rowsB_succ (t : Tb) (i : Nat) : rowsB t (i + 1) = rowsB t i ++ mvsB (t.mv.getD i []) ++ gosB (t.go.getD i []) := by
  rw [rowsB, List.range_succ, List.flatMap_append, List.append_assoc]
  simp [rowsB, rowB]
theorem rowsB_len {t : Tb} (hs : BSm t) (hg : t.go.length = t.mv.length) : ∀ i, i ≤ t.mv.length → (∀ s, s < i → RowOk2 t s) → (rowsB t i).length ≤ i * 15728640
  | 0, _, _ => by simp [rowsB]
  | i + 1, hi, h => by
    have h1 := rowsB_len hs hg i (by omega) fun s hs => h s (by omega)
    have h2 := mvsB_len (h i (by omega)).1
    have h3 := gosB_len (h i (by omega)).2
    have h4 := hs.ml (i := i) (by omega)
    have h5 := hs.gl (i := i) (by omega)
    rw [rowsB_succ, List.length_append, List.length_append]
    omega
theorem headB_len {t : Tb} (hs : BSm t) (hg : t.go.length = t.mv.length) (h0 : 0 < t.mv.length) : (headB t).length ≤ 15 := by
  have h1 := vint5 (n := t.mv.length) (by have := hs.m; omega)
  have h2 := vint5 (n := (t.mv.getD 0 []).length) (by have := hs.ml (i := 0) h0; omega)
  have h3 := vint5 (n := (t.go.getD 0 []).length) (by have := hs.gl (i := 0) (by omega); omega)
  rw [headB, List.length_append, List.length_append]
  omega
theorem mvsB_succ {ms : List Mv} {j : Nat} (h : j < ms.length) : mvsB (ms.take (j + 1)) = mvsB (ms.take j) ++ vint (ms.getD j mv0).d.toNat ++ vint (ms.getD j mv0).n.toNat := by
  rw [mvsB, take_succ' mv0 h, List.flatMap_append, List.append_assoc]
  simp [mvsB, mvB]
theorem gosB_succ {xs : List Int} {j : Nat} (h : j < xs.length) : gosB (xs.take (j + 1)) = gosB (xs.take j) ++ vint (xs.getD j 0 + 1).toNat := by
  rw [gosB, take_succ' 0 h, List.flatMap_append]
  simp [gosB, goB]
theorem take_ok {α : Type} {p : α → Prop} {xs : List α} {j : Nat} (z : α) (hj : j < xs.length) (h : ∀ x ∈ xs.take j, p x) (hx : p (xs.getD j z)) : ∀ x ∈ xs.take (j + 1), p x := fun x hxm => by
  rw [take_succ' z hj, List.mem_append, List.mem_singleton] at hxm
  rcases hxm with h1 | rfl
  · exact h x h1
  · exact hx
theorem out0 {t : Tb} (hs : BSm t) (hg : t.go.length = t.mv.length) (h0 : 0 < t.mv.length) {i : Nat} (hi : i ≤ t.mv.length) (h : ∀ s, s < i → RowOk2 t s) : (headB t ++ rowsB t i).length ≤ 20000000000000 := by
  have h1 := headB_len hs hg h0
  have h2 := rowsB_len hs hg i hi h
  have h3 := hs.m
  rw [List.length_append]
  omega
theorem out1 {t : Tb} (hs : BSm t) (hg : t.go.length = t.mv.length) {i j : Nat} (hi : i < t.mv.length) (h : ∀ s, s < i → RowOk2 t s) (hj : ∀ m ∈ (t.mv.getD i []).take j, okMv m) : (headB t ++ rowsB t i ++ mvsB ((t.mv.getD i []).take j)).length ≤ 30000000000000 := by
  have h1 := out0 hs hg (by omega) (Nat.le_of_lt hi) h
  have h2 := mvsB_len hj
  have h3 := hs.ml hi
  rw [List.length_take] at h2
  rw [List.length_append]
  omega
theorem out2 {t : Tb} (hs : BSm t) (hg : t.go.length = t.mv.length) {i j : Nat} (hi : i < t.mv.length) (h : ∀ s, s < i → RowOk2 t s) (hm : ∀ m ∈ t.mv.getD i [], okMv m) (hj : ∀ x ∈ (t.go.getD i []).take j, okGo x) : (headB t ++ rowsB t i ++ mvsB (t.mv.getD i []) ++ gosB ((t.go.getD i []).take j)).length ≤ 40000000000000 := by
  have h1 := out1 (j := (t.mv.getD i []).length) hs hg hi h (by rw [List.take_length]; exact hm)
  have h2 := gosB_len hj
  have h3 := hs.gl (i := i) (by omega)
  rw [List.take_length] at h1
  rw [List.length_take] at h2
  rw [List.length_append]
  omega
end Go.Proofs.YtkpehkadammppaaFx
