/- Merging two sorted stretches of the order. -/
import Derived.Test.YtkpehkadammppaaProg
import Derived.Test.YtkpehkadammppaaSwapW
import Derived.Test.YtkpehkadammppaaLess
import Derived.Test.YtkpehkadammppaaRot
import Derived.Test.YtkpehkadammppaaSrt
import Derived.Test.YtkpehkadammppaaBits
set_option linter.unusedVariables false
set_option linter.unusedSimpArgs false
namespace Go.Proofs.Ytkpehkadammppaa.Merge
open Go Go.RowKit Go.Proofs.YtkpehkadammppaaFx Go.Proofs.Ytkpehkadammppaa.SwapW Go.Proofs.Ytkpehkadammppaa.Less Go.Proofs.Ytkpehkadammppaa.Rot
theorem agg152 : Agg Try.prog 152 2 := agg_of Try.underlying152 (by kernel_rfl)
theorem en57 : Enters Try.prog 57 := enters Try.func57 (by kernel_rfl) rfl
theorem en89 : Enters Try.prog 89 := enters Try.func89 (by kernel_rfl) rfl
theorem en90 : Enters Try.prog 90 := enters Try.func90 (by kernel_rfl) rfl
theorem fa152_0 : FieldAt Try.prog 152 0 0 := field_at (sz := 0) Try.underlying152 rfl (by kernel_rfl) rfl
theorem fa152_1 : FieldAt Try.prog 152 1 1 := field_at (sz := 0) Try.underlying152 rfl (by kernel_rfl) rfl
theorem one118 : One Try.prog 118 := one_of Try.underlying118 rfl (by kernel_rfl)
theorem one135 : One Try.prog 135 := one_of Try.underlying135 rfl (by kernel_rfl)

/-- symMerge does what it should on stretches of up to k places. -/
def SymOk (R : Option Addr) (cr b2 b6 g n : Nat) (rows : List (List Int)) (k : Nat) : Prop := ∀ (w0 w : World) (xs : List Int) (LL : List Int → List Ch) (a m b : Nat) (hR : Rd (kInt .i64).sl w0 R rows) (UU : ∀ x y, Upd (LL x) (Row (fInt .i64) 3 (.slice (some ⟨g, 0, none⟩) n n) x) (Row (fInt .i64) 3 (.slice (some ⟨g, 0, none⟩) n n) y) (LL y)) (U6 : ∀ x, Upd (LL x) (Blk b6 39 [.slice (some ⟨g, 0, none⟩) n n]) (Blk b6 39 [.slice (some ⟨g, 0, none⟩) n n]) (LL x)) (U2 : ∀ x, Upd (LL x) (Blk b2 23 [.slice R rows.length cr]) (Blk b2 23 [.slice R rows.length cr]) (LL x))
    (HH : Holds w0 (LL xs) w) (hn : n = xs.length) (hx : xs.length ≤ 1099511627776) (hrg : ∀ x ∈ xs, 0 ≤ x ∧ x < rows.length) (ham : a < m) (hmb : m < b) (hbl : b ≤ xs.length) (ht : Two (lnR rows) xs a m b) (hk : b - a ≤ k), Calls Try.prog 89 #[.agg #[.func (.func 57) #[] #[.pointer (some ⟨b2, 0, none⟩), .pointer (some ⟨b6, 0, none⟩)], .func (.func 83) #[] #[.slice (some ⟨g, 0, none⟩) n n, typeHandle Try.prog 3]], .int .i64 a, .int .i64 m, .int .i64 b] w fun e w' => ∃ v, e = .returned v ∧ ∃ ys, v = .tuple #[] ∧ Srtd (lnR rows) xs ys a b ∧ Holds w0 (LL ys) w'

set_option maxHeartbeats 4000000 in
set_option maxRecDepth 100000 in
theorem merge_step {k a m b : Nat} {R : Option Addr} {cr b2 b6 g n : Nat} {w0 w : World} {xs : List Int} {rows : List (List Int)} {LL : List Int → List Ch} (hR : Rd (kInt .i64).sl w0 R rows) (UU : ∀ x y, Upd (LL x) (Row (fInt .i64) 3 (.slice (some ⟨g, 0, none⟩) n n) x) (Row (fInt .i64) 3 (.slice (some ⟨g, 0, none⟩) n n) y) (LL y)) (U6 : ∀ x, Upd (LL x) (Blk b6 39 [.slice (some ⟨g, 0, none⟩) n n]) (Blk b6 39 [.slice (some ⟨g, 0, none⟩) n n]) (LL x)) (U2 : ∀ x, Upd (LL x) (Blk b2 23 [.slice R rows.length cr]) (Blk b2 23 [.slice R rows.length cr]) (LL x))
    (HH : Holds w0 (LL xs) w) (hn : n = xs.length) (hx : xs.length ≤ 1099511627776) (hrg : ∀ x ∈ xs, 0 ≤ x ∧ x < rows.length) (ham : a < m) (hmb : m < b) (hbl : b ≤ xs.length) (ht : Two (lnR rows) xs a m b) (ih : SymOk R cr b2 b6 g n rows k) (hk : b - a ≤ k + 1) :
    Calls Try.prog 89 #[.agg #[.func (.func 57) #[] #[.pointer (some ⟨b2, 0, none⟩), .pointer (some ⟨b6, 0, none⟩)], .func (.func 83) #[] #[.slice (some ⟨g, 0, none⟩) n n, typeHandle Try.prog 3]], .int .i64 a, .int .i64 m, .int .i64 b] w fun e w' => ∃ v, e = .returned v ∧ ∃ ys, v = .tuple #[] ∧ Srtd (lnR rows) xs ys a b ∧ Holds w0 (LL ys) w' := by
  refine calls_of Try.func89 rfl Try.ntmps89 rfl ?_
  have H := HH
  refine wc_seq ?_
  refine wc_region ?_
  refine wl_box (cs := [_, _]) H rfl rfl rfl ?_
  intro b4 w1 hb4 H2
  refine wl_nil ?_
  refine wc_seq ?_
  refine wc_seq ?_
  refine wc_region ?_
  refine wl_v rfl rfl rfl (v_move rfl) ?_
  refine wl_v rfl rfl rfl (v_move rfl) ?_
  refine wl_v rfl rfl rfl (v_subi rfl rfl (by omega)) ?_
  refine wl_v rfl rfl rfl (v_eql rfl rfl) ?_
  refine wl_nil ?_
  refine wc_cond rfl (fun c0 => ?_) (fun c0 => ?_)
  · have c0p := of_decide_eq_true c0
    obtain rfl : m = a + 1 := by omega
    refine wc_seq ?_
    refine wc_region ?_
    refine wl_v rfl rfl rfl (v_move rfl) ?_
    refine wl_v rfl rfl rfl (v_assign rfl) ?_
    refine wl_nil ?_
    refine wc_seq ?_
    refine wc_region ?_
    refine wl_v rfl rfl rfl (v_move rfl) ?_
    refine wl_v rfl rfl rfl (v_assign rfl) ?_
    refine wl_nil ?_
    refine wc_seq ?_
    refine wc_block ?_
    refine wc_loop (σ := Nat × Nat) (fun s => [(1, .int .i64 a), (2, .int .i64 (a + 1 : Nat)), (3, .int .i64 b), (4, .pointer (some ⟨b4, 0, none⟩)), (8, .int .i64 s.1), (9, .int .i64 s.2)]) (fun s W => (a + 1 ≤ s.1 ∧ s.1 ≤ s.2 ∧ s.2 ≤ b ∧ (∀ q, a + 1 ≤ q → q < s.1 → lnR rows (at0 xs a) < lnR rows (at0 xs q)) ∧ (∀ q, s.2 ≤ q → q < b → ¬ lnR rows (at0 xs a) < lnR rows (at0 xs q))) ∧ Holds w0 (Blk b4 152 [.func (.func 57) #[] #[.pointer (some ⟨b2, 0, none⟩), .pointer (some ⟨b6, 0, none⟩)], .func (.func 83) #[] #[.slice (some ⟨g, 0, none⟩) n n, typeHandle Try.prog 3]] :: LL xs) W) (fun s => s.2 - s.1) (a + 1, b) (sc rfl (sc rfl (sc rfl (sc rfl (sc rfl (sc rfl (sn _))))))) ⟨⟨Nat.le_refl _, Nat.le_of_lt hmb, Nat.le_refl _, fun q e1 e2 => absurd e2 (by dsimp only; omega), fun q e1 e2 => absurd e2 (by dsimp only at e1; omega)⟩, H2⟩ ?_
    rintro ⟨i, j⟩ W0 ⟨⟨h1, h2, h3, h4, h5⟩, H⟩
    dsimp only at h1 h2 h3 h4 h5 H ⊢
    refine wc_seq ?_
    refine wc_seq ?_
    refine wc_region ?_
    refine wl_v rfl rfl rfl (v_move rfl) ?_
    refine wl_v rfl rfl rfl (v_move rfl) ?_
    refine wl_v rfl rfl rfl (v_lss rfl rfl) ?_
    refine wl_nil ?_
    refine wc_cond rfl (fun c1 => ?_) (fun c1 => ?_)
    · have c1p := of_decide_eq_true c1
      obtain ⟨h, hh⟩ : ∃ h : Nat, h = (i + j) / 2 := ⟨_, rfl⟩
      have eh : ((i : Int) + (j : Int)) / 2 = ((h : Nat) : Int) := by omega
      refine wc_skip ?_
      refine wc_block ?_
      refine wc_seq ?_
      refine wc_region ?_
      refine wl_v rfl rfl rfl (v_move rfl) ?_
      refine wl_v rfl rfl rfl (v_move rfl) ?_
      refine wl_v rfl rfl rfl (v_addi rfl rfl (by omega)) ?_
      refine wl_v rfl rfl rfl (v_toU Try.underlying3 Try.underlying142 rfl (by omega)) ?_
      refine wl_v rfl rfl rfl (v_half rfl rfl) ?_
      refine wl_v rfl rfl rfl (v_toI Try.underlying142 Try.underlying3 rfl (by omega)) ?_
      rw [eh]
      refine wl_v rfl rfl rfl (v_assign rfl) ?_
      refine wl_nil ?_
      refine wc_seq ?_
      refine wc_region ?_
      refine wl_v rfl rfl rfl (v_fb (o2 := 0) fa152_0 rfl rfl) ?_
      refine wl_v rfl rfl rfl (v_load one118 rfl (H.at (by repeat constructor) rfl)) ?_
      refine wl_v rfl rfl rfl (v_move rfl) ?_
      refine wl_v rfl rfl rfl (v_move rfl) ?_
      refine wl_callv (first := []) (captured := [.pointer (some ⟨b2, 0, none⟩), .pointer (some ⟨b6, 0, none⟩)]) en57 rfl rfl rfl (by have hq := less_calls (A := some ⟨g, 0, none⟩) (n := n) (c := n) (xs := xs) (i := h) (k := a) (fun u v hu => H.at (.there _ (U2 xs)) hu) (fun u v hu => H.at (.there _ (U6 xs)) hu) (H.rrd (f := fInt .i64) (e := 3) (.there _ (UU xs xs))) (hR.below H.old) (by omega) (by omega) (by omega) hrg; exact hq) ?_
      rintro _ w6 ⟨rfl, Hc⟩
      have H7 := H.call0 Hc
      refine wl_nil ?_
      refine wc_cond rfl (fun c2 => ?_) (fun c2 => ?_)
      · have c2p := of_decide_eq_true c2
        have hlt : lnR rows (at0 xs a) < lnR rows (at0 xs h) := by show (rows.getD (xs.getD (a) 0).toNat []).length < (rows.getD (xs.getD (h) 0).toNat []).length; omega
        refine wc_region ?_
        refine wl_v rfl rfl rfl (v_move rfl) ?_
        refine wl_v rfl rfl rfl (v_addi rfl rfl (by omega)) ?_
        refine wl_v rfl rfl rfl (v_assign rfl) ?_
        refine wl_nil ?_
        first
          | exact ⟨(h + 1, j), (sc rfl (sc rfl (sc rfl (sc rfl (sc rfl (sc rfl (sn _))))))), ⟨⟨by dsimp only; omega, by dsimp only; omega, h3, fun q e1 e2 => by (have e3 := ht.r.ge (p := q) (q := h) e1 (by dsimp only at e2; omega) (by omega)); exact Nat.lt_of_lt_of_le hlt e3, h5⟩, H7⟩, by dsimp only; omega⟩
          | exact ⟨(i, h), (sc rfl (sc rfl (sc rfl (sc rfl (sc rfl (sc rfl (sn _))))))), ⟨⟨h1, by dsimp only; omega, by dsimp only; omega, h4, fun q e1 e2 => by (have e3 := ht.r.ge (p := h) (q := q) (by omega) e1 e2); omega⟩, H7⟩, by dsimp only; omega⟩
      · have c2p := of_decide_eq_false c2
        have hlt : ¬ lnR rows (at0 xs a) < lnR rows (at0 xs h) := by show ¬ (rows.getD (xs.getD (a) 0).toNat []).length < (rows.getD (xs.getD (h) 0).toNat []).length; omega
        refine wc_region ?_
        refine wl_v rfl rfl rfl (v_move rfl) ?_
        refine wl_v rfl rfl rfl (v_assign rfl) ?_
        refine wl_nil ?_
        first
          | exact ⟨(h + 1, j), (sc rfl (sc rfl (sc rfl (sc rfl (sc rfl (sc rfl (sn _))))))), ⟨⟨by dsimp only; omega, by dsimp only; omega, h3, fun q e1 e2 => by (have e3 := ht.r.ge (p := q) (q := h) e1 (by dsimp only at e2; omega) (by omega)); exact Nat.lt_of_lt_of_le hlt e3, h5⟩, H7⟩, by dsimp only; omega⟩
          | exact ⟨(i, h), (sc rfl (sc rfl (sc rfl (sc rfl (sc rfl (sc rfl (sn _))))))), ⟨⟨h1, by dsimp only; omega, by dsimp only; omega, h4, fun q e1 e2 => by (have e3 := ht.r.ge (p := h) (q := q) (by omega) e1 e2); omega⟩, H7⟩, by dsimp only; omega⟩
    · have c1p := of_decide_eq_false c1
      refine wc_exit ?_
      refine wc_seq ?_
      refine wc_seq ?_
      refine wc_region ?_
      refine wl_v rfl rfl rfl (v_move rfl) ?_
      refine wl_v rfl rfl rfl (v_assign rfl) ?_
      refine wl_nil ?_
      refine wc_block ?_
      refine wc_loop (σ := Nat) (fun s => [(1, .int .i64 a), (2, .int .i64 (a + 1 : Nat)), (3, .int .i64 b), (4, .pointer (some ⟨b4, 0, none⟩)), (8, .int .i64 i), (11, .int .i64 (a + s : Nat))]) (fun s W => a + s + 1 ≤ i ∧ Holds w0 (Blk b4 152 [.func (.func 57) #[] #[.pointer (some ⟨b2, 0, none⟩), .pointer (some ⟨b6, 0, none⟩)], .func (.func 83) #[] #[.slice (some ⟨g, 0, none⟩) n n, typeHandle Try.prog 3]] :: LL (mvU xs a s)) W) (fun s => i - (a + s)) 0 (sc rfl (sc rfl (sc rfl (sc rfl (sc rfl (sc rfl (sn _))))))) ⟨by omega, H⟩ ?_
      rintro s W1 ⟨hs, H⟩
      refine wc_seq ?_
      refine wc_seq ?_
      refine wc_region ?_
      refine wl_v rfl rfl rfl (v_move rfl) ?_
      refine wl_v rfl rfl rfl (v_move rfl) ?_
      refine wl_v rfl rfl rfl (v_subi rfl rfl (by omega)) ?_
      refine wl_v rfl rfl rfl (v_lss rfl rfl) ?_
      refine wl_nil ?_
      refine wc_cond rfl (fun c3 => ?_) (fun c3 => ?_)
      · have c3p := of_decide_eq_true c3
        have hml := mvU_len xs a s
        refine wc_skip ?_
        refine wc_seq ?_
        refine wc_block ?_
        refine wc_region ?_
        refine wl_v rfl rfl rfl (v_fb (o2 := 1) fa152_1 rfl rfl) ?_
        refine wl_v rfl rfl rfl (v_load one135 rfl (H.at (by repeat constructor) rfl)) ?_
        refine wl_v rfl rfl rfl (v_move rfl) ?_
        refine wl_v rfl rfl rfl (v_move rfl) ?_
        refine wl_v rfl rfl rfl (v_addi rfl rfl (by omega)) ?_
        obtain ⟨ws8, hsw, H8⟩ := swap_run (g := g) (n := n) (i := a + s) (j := a + s + 1) (xs := mvU xs a s) H (.there _ (UU _ _)) (by omega) (by omega)
        refine wl_extv (first := []) (vs := [.int .i64 ((a + s : Nat) : Int), .int .i64 ((a + s + 1 : Nat) : Int)]) (captured := [.slice (some ⟨g, 0, none⟩) n n, typeHandle Try.prog 3]) rfl (by rfl) rfl hsw ?_
        refine wl_nil ?_
        refine wc_region ?_
        refine wl_v rfl rfl rfl (v_move rfl) ?_
        refine wl_v rfl rfl rfl (v_addi rfl rfl (by omega)) ?_
        refine wl_v rfl rfl rfl (v_assign rfl) ?_
        refine wl_nil ?_
        exact ⟨s + 1, (sc rfl (sc rfl (sc rfl (sc rfl (sc rfl (sc rfl (sn _))))))), ⟨by omega, H8⟩, by omega⟩
      · have c3p := of_decide_eq_false c3
        refine wc_exit ?_
        refine wc_ret ?_
        first
          | exact ⟨_, res0 rfl, _, rfl, baseU ht (k := s) (by omega) hbl (fun q e1 e2 => h4 q e1 (by omega)) (fun q e1 e2 => h5 q (by omega) e2), H.tail⟩
          | exact ⟨_, res0 rfl, _, rfl, baseD ht (k := s) (by omega) (by omega) (fun q e1 e2 => h5 q (by omega) e2) (fun q e1 e2 => h4 q e1 (by omega)), H.tail⟩
          | exact ⟨_, res0 rfl, _, rfl, merged hfo hrot (by omega) (by omega) hX hs1 hs2, H.tail⟩
          | exact ⟨_, res0 rfl, _, rfl, merged hfo hrot (by omega) (by omega) hX hs1 (ht3.triv (by omega)), H.tail⟩
  · have c0p := of_decide_eq_false c0
    refine wc_skip ?_
    refine wc_seq ?_
    refine wc_seq ?_
    refine wc_region ?_
    refine wl_v rfl rfl rfl (v_move rfl) ?_
    refine wl_v rfl rfl rfl (v_move rfl) ?_
    refine wl_v rfl rfl rfl (v_subi rfl rfl (by omega)) ?_
    refine wl_v rfl rfl rfl (v_eql rfl rfl) ?_
    refine wl_nil ?_
    refine wc_cond rfl (fun c4 => ?_) (fun c4 => ?_)
    · have c4p := of_decide_eq_true c4
      obtain rfl : b = m + 1 := by omega
      refine wc_seq ?_
      refine wc_region ?_
      refine wl_v rfl rfl rfl (v_move rfl) ?_
      refine wl_v rfl rfl rfl (v_assign rfl) ?_
      refine wl_nil ?_
      refine wc_seq ?_
      refine wc_region ?_
      refine wl_v rfl rfl rfl (v_move rfl) ?_
      refine wl_v rfl rfl rfl (v_assign rfl) ?_
      refine wl_nil ?_
      refine wc_seq ?_
      refine wc_block ?_
      refine wc_loop (σ := Nat × Nat) (fun s => [(1, .int .i64 a), (2, .int .i64 m), (3, .int .i64 (m + 1 : Nat)), (4, .pointer (some ⟨b4, 0, none⟩)), (12, .int .i64 s.1), (13, .int .i64 s.2)]) (fun s W => (a ≤ s.1 ∧ s.1 ≤ s.2 ∧ s.2 ≤ m ∧ (∀ q, a ≤ q → q < s.1 → ¬ lnR rows (at0 xs q) < lnR rows (at0 xs m)) ∧ (∀ q, s.2 ≤ q → q < m → lnR rows (at0 xs q) < lnR rows (at0 xs m))) ∧ Holds w0 (Blk b4 152 [.func (.func 57) #[] #[.pointer (some ⟨b2, 0, none⟩), .pointer (some ⟨b6, 0, none⟩)], .func (.func 83) #[] #[.slice (some ⟨g, 0, none⟩) n n, typeHandle Try.prog 3]] :: LL xs) W) (fun s => s.2 - s.1) (a, m) (sc rfl (sc rfl (sc rfl (sc rfl (sc rfl (sc rfl (sn _))))))) ⟨⟨Nat.le_refl _, Nat.le_of_lt ham, Nat.le_refl _, fun q e1 e2 => absurd e2 (by dsimp only; omega), fun q e1 e2 => absurd e2 (by dsimp only at e1; omega)⟩, H2⟩ ?_
      rintro ⟨i, j⟩ W2 ⟨⟨h1, h2, h3, h4, h5⟩, H⟩
      dsimp only at h1 h2 h3 h4 h5 H ⊢
      refine wc_seq ?_
      refine wc_seq ?_
      refine wc_region ?_
      refine wl_v rfl rfl rfl (v_move rfl) ?_
      refine wl_v rfl rfl rfl (v_move rfl) ?_
      refine wl_v rfl rfl rfl (v_lss rfl rfl) ?_
      refine wl_nil ?_
      refine wc_cond rfl (fun c5 => ?_) (fun c5 => ?_)
      · have c5p := of_decide_eq_true c5
        obtain ⟨h, hh⟩ : ∃ h : Nat, h = (i + j) / 2 := ⟨_, rfl⟩
        have eh : ((i : Int) + (j : Int)) / 2 = ((h : Nat) : Int) := by omega
        refine wc_skip ?_
        refine wc_block ?_
        refine wc_seq ?_
        refine wc_region ?_
        refine wl_v rfl rfl rfl (v_move rfl) ?_
        refine wl_v rfl rfl rfl (v_move rfl) ?_
        refine wl_v rfl rfl rfl (v_addi rfl rfl (by omega)) ?_
        refine wl_v rfl rfl rfl (v_toU Try.underlying3 Try.underlying142 rfl (by omega)) ?_
        refine wl_v rfl rfl rfl (v_half rfl rfl) ?_
        refine wl_v rfl rfl rfl (v_toI Try.underlying142 Try.underlying3 rfl (by omega)) ?_
        rw [eh]
        refine wl_v rfl rfl rfl (v_assign rfl) ?_
        refine wl_nil ?_
        refine wc_seq ?_
        refine wc_region ?_
        refine wl_v rfl rfl rfl (v_fb (o2 := 0) fa152_0 rfl rfl) ?_
        refine wl_v rfl rfl rfl (v_load one118 rfl (H.at (by repeat constructor) rfl)) ?_
        refine wl_v rfl rfl rfl (v_move rfl) ?_
        refine wl_v rfl rfl rfl (v_move rfl) ?_
        refine wl_callv (first := []) (captured := [.pointer (some ⟨b2, 0, none⟩), .pointer (some ⟨b6, 0, none⟩)]) en57 rfl rfl rfl (by have hq := less_calls (A := some ⟨g, 0, none⟩) (n := n) (c := n) (xs := xs) (i := m) (k := h) (fun u v hu => H.at (.there _ (U2 xs)) hu) (fun u v hu => H.at (.there _ (U6 xs)) hu) (H.rrd (f := fInt .i64) (e := 3) (.there _ (UU xs xs))) (hR.below H.old) (by omega) (by omega) (by omega) hrg; exact hq) ?_
        rintro _ w12 ⟨rfl, Hc⟩
        have H13 := H.call0 Hc
        refine wl_v rfl rfl rfl (v_not rfl) ?_
        refine wl_nil ?_
        refine wc_cond rfl (fun c6 => ?_) (fun c6 => ?_)
        · have c6p := of_nd_t c6
          have hlt : ¬ lnR rows (at0 xs h) < lnR rows (at0 xs m) := by show ¬ (rows.getD (xs.getD (h) 0).toNat []).length < (rows.getD (xs.getD (m) 0).toNat []).length; omega
          refine wc_region ?_
          refine wl_v rfl rfl rfl (v_move rfl) ?_
          refine wl_v rfl rfl rfl (v_addi rfl rfl (by omega)) ?_
          refine wl_v rfl rfl rfl (v_assign rfl) ?_
          refine wl_nil ?_
          first
            | exact ⟨(h + 1, j), (sc rfl (sc rfl (sc rfl (sc rfl (sc rfl (sc rfl (sn _))))))), ⟨⟨by dsimp only; omega, by dsimp only; omega, h3, fun q e1 e2 => by (have e3 := ht.l.ge (p := q) (q := h) e1 (by dsimp only at e2; omega) (by omega)); omega, h5⟩, H13⟩, by dsimp only; omega⟩
            | exact ⟨(i, h), (sc rfl (sc rfl (sc rfl (sc rfl (sc rfl (sc rfl (sn _))))))), ⟨⟨h1, by dsimp only; omega, by dsimp only; omega, h4, fun q e1 e2 => by (have e3 := ht.l.ge (p := h) (q := q) (by omega) e1 e2); omega⟩, H13⟩, by dsimp only; omega⟩
        · have c6p := of_nd_f c6
          have hlt : lnR rows (at0 xs h) < lnR rows (at0 xs m) := by show (rows.getD (xs.getD (h) 0).toNat []).length < (rows.getD (xs.getD (m) 0).toNat []).length; omega
          refine wc_region ?_
          refine wl_v rfl rfl rfl (v_move rfl) ?_
          refine wl_v rfl rfl rfl (v_assign rfl) ?_
          refine wl_nil ?_
          first
            | exact ⟨(h + 1, j), (sc rfl (sc rfl (sc rfl (sc rfl (sc rfl (sc rfl (sn _))))))), ⟨⟨by dsimp only; omega, by dsimp only; omega, h3, fun q e1 e2 => by (have e3 := ht.l.ge (p := q) (q := h) e1 (by dsimp only at e2; omega) (by omega)); omega, h5⟩, H13⟩, by dsimp only; omega⟩
            | exact ⟨(i, h), (sc rfl (sc rfl (sc rfl (sc rfl (sc rfl (sc rfl (sn _))))))), ⟨⟨h1, by dsimp only; omega, by dsimp only; omega, h4, fun q e1 e2 => by (have e3 := ht.l.ge (p := h) (q := q) (by omega) e1 e2); omega⟩, H13⟩, by dsimp only; omega⟩
      · have c5p := of_decide_eq_false c5
        refine wc_exit ?_
        refine wc_seq ?_
        refine wc_seq ?_
        refine wc_region ?_
        refine wl_v rfl rfl rfl (v_move rfl) ?_
        refine wl_v rfl rfl rfl (v_assign rfl) ?_
        refine wl_nil ?_
        refine wc_block ?_
        refine wc_loop (σ := Nat) (fun s => [(1, .int .i64 a), (2, .int .i64 m), (3, .int .i64 (m + 1 : Nat)), (4, .pointer (some ⟨b4, 0, none⟩)), (12, .int .i64 i), (15, .int .i64 (m - s : Nat))]) (fun s W => i + s ≤ m ∧ Holds w0 (Blk b4 152 [.func (.func 57) #[] #[.pointer (some ⟨b2, 0, none⟩), .pointer (some ⟨b6, 0, none⟩)], .func (.func 83) #[] #[.slice (some ⟨g, 0, none⟩) n n, typeHandle Try.prog 3]] :: LL (mvD xs m s)) W) (fun s => m - s) 0 (sc rfl (sc rfl (sc rfl (sc rfl (sc rfl (sc rfl (sn _))))))) ⟨by omega, H⟩ ?_
        rintro s W3 ⟨hs, H⟩
        refine wc_seq ?_
        refine wc_seq ?_
        refine wc_region ?_
        refine wl_v rfl rfl rfl (v_move rfl) ?_
        refine wl_v rfl rfl rfl (v_move rfl) ?_
        refine wl_v rfl rfl rfl (v_gtr rfl rfl) ?_
        refine wl_nil ?_
        refine wc_cond rfl (fun c7 => ?_) (fun c7 => ?_)
        · have c7p := of_decide_eq_true c7
          have hml := mvD_len xs m s
          have hj1 : ((m - s - 1 : Nat) : Int) = ((m - s : Nat) : Int) - 1 := by omega
          refine wc_skip ?_
          refine wc_seq ?_
          refine wc_block ?_
          refine wc_region ?_
          refine wl_v rfl rfl rfl (v_fb (o2 := 1) fa152_1 rfl rfl) ?_
          refine wl_v rfl rfl rfl (v_load one135 rfl (H.at (by repeat constructor) rfl)) ?_
          refine wl_v rfl rfl rfl (v_move rfl) ?_
          refine wl_v rfl rfl rfl (v_move rfl) ?_
          refine wl_v rfl rfl rfl (v_subi rfl rfl (by omega)) ?_
          obtain ⟨ws14, hsw, H14⟩ := swap_run (g := g) (n := n) (i := m - s) (j := m - s - 1) (xs := mvD xs m s) H (.there _ (UU _ _)) (by omega) (by omega)
          refine wl_extv (first := []) (vs := [.int .i64 ((m - s : Nat) : Int), .int .i64 ((m - s - 1 : Nat) : Int)]) (captured := [.slice (some ⟨g, 0, none⟩) n n, typeHandle Try.prog 3]) rfl (by rw [hj1]; rfl) rfl hsw ?_
          refine wl_nil ?_
          refine wc_region ?_
          refine wl_v rfl rfl rfl (v_move rfl) ?_
          refine wl_v rfl rfl rfl (v_subi rfl rfl (by omega)) ?_
          refine wl_v rfl rfl rfl (v_assign rfl) ?_
          refine wl_nil ?_
          exact ⟨s + 1, by rw [show ((m - (s + 1) : Nat) : Int) = ((m - s : Nat) : Int) - 1 from hj1]; exact (sc rfl (sc rfl (sc rfl (sc rfl (sc rfl (sc rfl (sn _))))))), ⟨by omega, H14⟩, by omega⟩
        · have c7p := of_decide_eq_false c7
          refine wc_exit ?_
          refine wc_ret ?_
          first
            | exact ⟨_, res0 rfl, _, rfl, baseU ht (k := s) (by omega) hbl (fun q e1 e2 => h4 q e1 (by omega)) (fun q e1 e2 => h5 q (by omega) e2), H.tail⟩
            | exact ⟨_, res0 rfl, _, rfl, baseD ht (k := s) (by omega) (by omega) (fun q e1 e2 => h5 q (by omega) e2) (fun q e1 e2 => h4 q e1 (by omega)), H.tail⟩
            | exact ⟨_, res0 rfl, _, rfl, merged hfo hrot (by omega) (by omega) hX hs1 hs2, H.tail⟩
            | exact ⟨_, res0 rfl, _, rfl, merged hfo hrot (by omega) (by omega) hX hs1 (ht3.triv (by omega)), H.tail⟩
    · have c4p := of_decide_eq_false c4
      obtain ⟨d, hd⟩ : ∃ h : Nat, h = (a + b) / 2 := ⟨_, rfl⟩
      have eh : ((a : Int) + (b : Int)) / 2 = ((d : Nat) : Int) := by omega
      refine wc_skip ?_
      refine wc_seq ?_
      refine wc_region ?_
      refine wl_v rfl rfl rfl (v_move rfl) ?_
      refine wl_v rfl rfl rfl (v_move rfl) ?_
      refine wl_v rfl rfl rfl (v_addi rfl rfl (by omega)) ?_
      refine wl_v rfl rfl rfl (v_toU Try.underlying3 Try.underlying142 rfl (by omega)) ?_
      refine wl_v rfl rfl rfl (v_half rfl rfl) ?_
      refine wl_v rfl rfl rfl (v_toI Try.underlying142 Try.underlying3 rfl (by omega)) ?_
      rw [eh]
      refine wl_v rfl rfl rfl (v_assign rfl) ?_
      refine wl_nil ?_
      refine wc_seq ?_
      refine wc_region ?_
      refine wl_v rfl rfl rfl (v_move rfl) ?_
      refine wl_v rfl rfl rfl (v_move rfl) ?_
      refine wl_v rfl rfl rfl (v_addi rfl rfl (by omega)) ?_
      refine wl_v rfl rfl rfl (v_assign rfl) ?_
      refine wl_nil ?_
      refine wc_seq ?_
      refine wc_region ?_
      refine wl_v rfl rfl rfl (v_assign rfl) ?_
      refine wl_v rfl rfl rfl (v_assign rfl) ?_
      refine wl_nil ?_
      refine wc_cut (σ := Nat × Nat) (fun s => [(1, .int .i64 a), (2, .int .i64 m), (3, .int .i64 b), (4, .pointer (some ⟨b4, 0, none⟩)), (16, .int .i64 d), (17, .int .i64 ((d : Int) + m)), (18, .int .i64 s.1), (19, .int .i64 s.2)]) (fun s W => (a ≤ s.1 ∧ s.1 ≤ s.2 ∧ s.2 ≤ m ∧ s.2 ≤ d ∧ d + m - s.1 ≤ b ∧ ((s.1 = a ∨ d + m - s.1 = b) ∨ ¬ lnR rows (at0 xs (s.1 - 1)) < lnR rows (at0 xs (d + m - s.1))) ∧ ((s.2 = m ∨ d + m - s.2 = m) ∨ lnR rows (at0 xs s.2) < lnR rows (at0 xs (d + m - s.2 - 1)))) ∧ Holds w0 (Blk b4 152 [.func (.func 57) #[] #[.pointer (some ⟨b2, 0, none⟩), .pointer (some ⟨b6, 0, none⟩)], .func (.func 83) #[] #[.slice (some ⟨g, 0, none⟩) n n, typeHandle Try.prog 3]] :: LL xs) W) ?_ ?_
      · refine wc_seq ?_
        refine wc_region ?_
        refine wl_v rfl rfl rfl (v_move rfl) ?_
        refine wl_v rfl rfl rfl (v_move rfl) ?_
        refine wl_v rfl rfl rfl (v_gtr rfl rfl) ?_
        refine wl_nil ?_
        refine wc_cond rfl (fun c8 => ?_) (fun c8 => ?_)
        · have c8p := of_decide_eq_true c8
          refine wc_seq ?_
          refine wc_region ?_
          refine wl_v rfl rfl rfl (v_move rfl) ?_
          refine wl_v rfl rfl rfl (v_move rfl) ?_
          refine wl_v rfl rfl rfl (v_subi rfl rfl (by omega)) ?_
          refine wl_v rfl rfl rfl (v_assign rfl) ?_
          refine wl_nil ?_
          refine wc_region ?_
          refine wl_v rfl rfl rfl (v_move rfl) ?_
          refine wl_v rfl rfl rfl (v_assign rfl) ?_
          refine wl_nil ?_
          first
            | exact ⟨(d + m - b, d), by rw [show ((d + m - b : Nat) : Int) = (d : Int) + m - b by omega]; exact (sc rfl (sc rfl (sc rfl (sc rfl (sc rfl (sc rfl (sc rfl (sc rfl (sn _))))))))), ⟨by dsimp only; omega, by dsimp only; omega, by dsimp only; omega, by dsimp only; omega, by dsimp only; omega, .inl (.inr (by dsimp only; omega)), .inl (.inr (by dsimp only; omega))⟩, H2⟩
            | exact ⟨(a, m), (sc rfl (sc rfl (sc rfl (sc rfl (sc rfl (sc rfl (sc rfl (sc rfl (sn _))))))))), ⟨by dsimp only; omega, by dsimp only; omega, by dsimp only; omega, by dsimp only; omega, by dsimp only; omega, .inl (.inl rfl), .inl (.inl rfl)⟩, H2⟩
        · have c8p := of_decide_eq_false c8
          refine wc_seq ?_
          refine wc_region ?_
          refine wl_v rfl rfl rfl (v_move rfl) ?_
          refine wl_v rfl rfl rfl (v_assign rfl) ?_
          refine wl_nil ?_
          refine wc_region ?_
          refine wl_v rfl rfl rfl (v_move rfl) ?_
          refine wl_v rfl rfl rfl (v_assign rfl) ?_
          refine wl_nil ?_
          first
            | exact ⟨(d + m - b, d), by rw [show ((d + m - b : Nat) : Int) = (d : Int) + m - b by omega]; exact (sc rfl (sc rfl (sc rfl (sc rfl (sc rfl (sc rfl (sc rfl (sc rfl (sn _))))))))), ⟨by dsimp only; omega, by dsimp only; omega, by dsimp only; omega, by dsimp only; omega, by dsimp only; omega, .inl (.inr (by dsimp only; omega)), .inl (.inr (by dsimp only; omega))⟩, H2⟩
            | exact ⟨(a, m), (sc rfl (sc rfl (sc rfl (sc rfl (sc rfl (sc rfl (sc rfl (sc rfl (sn _))))))))), ⟨by dsimp only; omega, by dsimp only; omega, by dsimp only; omega, by dsimp only; omega, by dsimp only; omega, .inl (.inl rfl), .inl (.inl rfl)⟩, H2⟩
      · rintro ⟨s0, r0⟩ Wm ⟨⟨g1, g2, g3, g4, g5, g6, g7⟩, H⟩
        dsimp only at g1 g2 g3 g4 g5 g6 g7 H ⊢
        refine wc_seq ?_
        refine wc_region ?_
        refine wl_v rfl rfl rfl (v_move rfl) ?_
        refine wl_v rfl rfl rfl (v_subi rfl rfl (by omega)) ?_
        refine wl_v rfl rfl rfl (v_assign rfl) ?_
        refine wl_nil ?_
        refine wc_seq ?_
        refine wc_block ?_
        refine wc_loop (σ := Nat × Nat) (fun s => [(1, .int .i64 a), (2, .int .i64 m), (3, .int .i64 b), (4, .pointer (some ⟨b4, 0, none⟩)), (16, .int .i64 d), (17, .int .i64 ((d : Int) + m)), (18, .int .i64 s.1), (19, .int .i64 s.2), (20, .int .i64 ((d : Int) + m - 1))]) (fun s W => (a ≤ s.1 ∧ s.1 ≤ s.2 ∧ s.2 ≤ m ∧ s.2 ≤ d ∧ d + m - s.1 ≤ b ∧ ((s.1 = a ∨ d + m - s.1 = b) ∨ ¬ lnR rows (at0 xs (s.1 - 1)) < lnR rows (at0 xs (d + m - s.1))) ∧ ((s.2 = m ∨ d + m - s.2 = m) ∨ lnR rows (at0 xs s.2) < lnR rows (at0 xs (d + m - s.2 - 1)))) ∧ Holds w0 (Blk b4 152 [.func (.func 57) #[] #[.pointer (some ⟨b2, 0, none⟩), .pointer (some ⟨b6, 0, none⟩)], .func (.func 83) #[] #[.slice (some ⟨g, 0, none⟩) n n, typeHandle Try.prog 3]] :: LL xs) W) (fun s => s.2 - s.1) (s0, r0) (sc rfl (sc rfl (sc rfl (sc rfl (sc rfl (sc rfl (sc rfl (sc rfl (sc rfl (sn _)))))))))) ⟨⟨g1, g2, g3, g4, g5, g6, g7⟩, H⟩ ?_
        rintro ⟨st, j⟩ W4 ⟨⟨h1, h2, h3, h4, h5, h6, h7⟩, H⟩
        dsimp only at h1 h2 h3 h4 h5 h6 h7 H ⊢
        refine wc_seq ?_
        refine wc_seq ?_
        refine wc_region ?_
        refine wl_v rfl rfl rfl (v_move rfl) ?_
        refine wl_v rfl rfl rfl (v_move rfl) ?_
        refine wl_v rfl rfl rfl (v_lss rfl rfl) ?_
        refine wl_nil ?_
        refine wc_cond rfl (fun c9 => ?_) (fun c9 => ?_)
        · have c9p := of_decide_eq_true c9
          obtain ⟨h, hh⟩ : ∃ h : Nat, h = (st + j) / 2 := ⟨_, rfl⟩
          have eh : ((st : Int) + (j : Int)) / 2 = ((h : Nat) : Int) := by omega
          refine wc_skip ?_
          refine wc_block ?_
          refine wc_seq ?_
          refine wc_region ?_
          refine wl_v rfl rfl rfl (v_move rfl) ?_
          refine wl_v rfl rfl rfl (v_move rfl) ?_
          refine wl_v rfl rfl rfl (v_addi rfl rfl (by omega)) ?_
          refine wl_v rfl rfl rfl (v_toU Try.underlying3 Try.underlying142 rfl (by omega)) ?_
          refine wl_v rfl rfl rfl (v_half rfl rfl) ?_
          refine wl_v rfl rfl rfl (v_toI Try.underlying142 Try.underlying3 rfl (by omega)) ?_
          rw [eh]
          refine wl_v rfl rfl rfl (v_assign rfl) ?_
          refine wl_nil ?_
          refine wc_seq ?_
          refine wc_region ?_
          refine wl_v rfl rfl rfl (v_fb (o2 := 0) fa152_0 rfl rfl) ?_
          refine wl_v rfl rfl rfl (v_load one118 rfl (H.at (by repeat constructor) rfl)) ?_
          refine wl_v rfl rfl rfl (v_move rfl) ?_
          refine wl_v rfl rfl rfl (v_move rfl) ?_
          refine wl_v rfl rfl rfl (v_subi rfl rfl (by omega)) ?_
          refine wl_v rfl rfl rfl (v_move rfl) ?_
          refine wl_callv (first := []) (captured := [.pointer (some ⟨b2, 0, none⟩), .pointer (some ⟨b6, 0, none⟩)]) en57 rfl rfl rfl (by have hq := less_calls (A := some ⟨g, 0, none⟩) (n := n) (c := n) (xs := xs) (i := d + m - 1 - h) (k := h) (fun u v hu => H.at (.there _ (U2 xs)) hu) (fun u v hu => H.at (.there _ (U6 xs)) hu) (H.rrd (f := fInt .i64) (e := 3) (.there _ (UU xs xs))) (hR.below H.old) (by omega) (by omega) (by omega) hrg; rw [show ((d + m - 1 - h : Nat) : Int) = (d : Int) + m - 1 - h by omega] at hq; exact hq) ?_
          rintro _ w21 ⟨rfl, Hc⟩
          have H22 := H.call0 Hc
          refine wl_v rfl rfl rfl (v_not rfl) ?_
          refine wl_nil ?_
          refine wc_cond rfl (fun c10 => ?_) (fun c10 => ?_)
          · have c10p := of_nd_t c10
            have hlt : ¬ lnR rows (at0 xs h) < lnR rows (at0 xs (d + m - 1 - h)) := by show ¬ (rows.getD (xs.getD (h) 0).toNat []).length < (rows.getD (xs.getD ((d + m - 1 - h)) 0).toNat []).length; omega
            refine wc_region ?_
            refine wl_v rfl rfl rfl (v_move rfl) ?_
            refine wl_v rfl rfl rfl (v_addi rfl rfl (by omega)) ?_
            refine wl_v rfl rfl rfl (v_assign rfl) ?_
            refine wl_nil ?_
            first
              | exact ⟨(h + 1, j), (sc rfl (sc rfl (sc rfl (sc rfl (sc rfl (sc rfl (sc rfl (sc rfl (sc rfl (sn _)))))))))), ⟨⟨by dsimp only; omega, by dsimp only; omega, h3, h4, by dsimp only; omega, .inr (by rw [show h + 1 - 1 = h by omega, show d + m - (h + 1) = d + m - 1 - h by omega]; exact hlt), h7⟩, H22⟩, by dsimp only; omega⟩
              | exact ⟨(st, h), (sc rfl (sc rfl (sc rfl (sc rfl (sc rfl (sc rfl (sc rfl (sc rfl (sc rfl (sn _)))))))))), ⟨⟨h1, by dsimp only; omega, by dsimp only; omega, by dsimp only; omega, h5, h6, .inr (by rw [show d + m - h - 1 = d + m - 1 - h by omega]; exact hlt)⟩, H22⟩, by dsimp only; omega⟩
          · have c10p := of_nd_f c10
            have hlt : lnR rows (at0 xs h) < lnR rows (at0 xs (d + m - 1 - h)) := by show (rows.getD (xs.getD (h) 0).toNat []).length < (rows.getD (xs.getD ((d + m - 1 - h)) 0).toNat []).length; omega
            refine wc_region ?_
            refine wl_v rfl rfl rfl (v_move rfl) ?_
            refine wl_v rfl rfl rfl (v_assign rfl) ?_
            refine wl_nil ?_
            first
              | exact ⟨(h + 1, j), (sc rfl (sc rfl (sc rfl (sc rfl (sc rfl (sc rfl (sc rfl (sc rfl (sc rfl (sn _)))))))))), ⟨⟨by dsimp only; omega, by dsimp only; omega, h3, h4, by dsimp only; omega, .inr (by rw [show h + 1 - 1 = h by omega, show d + m - (h + 1) = d + m - 1 - h by omega]; exact hlt), h7⟩, H22⟩, by dsimp only; omega⟩
              | exact ⟨(st, h), (sc rfl (sc rfl (sc rfl (sc rfl (sc rfl (sc rfl (sc rfl (sc rfl (sc rfl (sn _)))))))))), ⟨⟨h1, by dsimp only; omega, by dsimp only; omega, by dsimp only; omega, h5, h6, .inr (by rw [show d + m - h - 1 = d + m - 1 - h by omega]; exact hlt)⟩, H22⟩, by dsimp only; omega⟩
        · have c9p := of_decide_eq_false c9
          obtain rfl : st = j := by omega
          have hfo : Fnd (lnR rows) xs a m b d st := ⟨hd, h1, h3, by omega, h5, h6, h7⟩
          refine wc_exit ?_
          refine wc_seq ?_
          refine wc_region ?_
          refine wl_v rfl rfl rfl (v_move rfl) ?_
          refine wl_v rfl rfl rfl (v_move rfl) ?_
          refine wl_v rfl rfl rfl (v_subi rfl rfl (by omega)) ?_
          rw [show (d : Int) + m - st = ((d + m - st : Nat) : Int) by omega]
          refine wl_v rfl rfl rfl (v_assign rfl) ?_
          refine wl_nil ?_
          refine wc_cut (σ := List Int) (fun s => [(1, .int .i64 a), (2, .int .i64 m), (3, .int .i64 b), (4, .pointer (some ⟨b4, 0, none⟩)), (16, .int .i64 d), (18, .int .i64 st), (22, .int .i64 (d + m - st : Nat))]) (fun s W => IsRot xs s st m (d + m - st) ∧ Holds w0 (Blk b4 152 [.func (.func 57) #[] #[.pointer (some ⟨b2, 0, none⟩), .pointer (some ⟨b6, 0, none⟩)], .func (.func 83) #[] #[.slice (some ⟨g, 0, none⟩) n n, typeHandle Try.prog 3]] :: LL s) W) ?_ ?_
          · refine wc_seq ?_
            refine wc_region ?_
            refine wl_v rfl rfl rfl (v_move rfl) ?_
            refine wl_v rfl rfl rfl (v_move rfl) ?_
            refine wl_v rfl rfl rfl (v_lss rfl rfl) ?_
            refine wl_v rfl rfl rfl (v_move rfl) ?_
            refine wl_guard rfl rfl rfl (fun g141 => ?_) (fun g141 => ?_)
            · have g141p := of_decide_eq_true g141
              refine wl_v rfl rfl rfl (v_move rfl) ?_
              refine wl_on' rfl rfl g141 ?_
              refine wl_v rfl rfl rfl (v_move rfl) ?_
              refine wl_on' rfl rfl g141 ?_
              refine wl_v rfl rfl rfl (v_lss rfl rfl) ?_
              refine wl_v rfl rfl rfl (v_pick_t rfl g141 rfl) ?_
              refine wl_nil ?_
              refine wc_cond rfl (fun c11 => ?_) (fun c11 => ?_)
              · have c11p := of_decide_eq_true c11
                refine wc_region ?_
                refine wl_v rfl rfl rfl (v_loadN agg152 rfl rfl (H.ats (by repeat constructor))) ?_
                refine wl_v rfl rfl rfl (v_move rfl) ?_
                refine wl_v rfl rfl rfl (v_move rfl) ?_
                refine wl_v rfl rfl rfl (v_move rfl) ?_
                refine wl_call en90 rfl rfl (rotate_calls (b2 := b2) (b6 := b6) (LL := fun y => Blk b4 152 [.func (.func 57) #[] #[.pointer (some ⟨b2, 0, none⟩), .pointer (some ⟨b6, 0, none⟩)], .func (.func 83) #[] #[.slice (some ⟨g, 0, none⟩) n n, typeHandle Try.prog 3]] :: LL y) (a := st) (m := m) (b := d + m - st) (fun x y => .there _ (UU x y)) H (by omega) (by omega) (by omega) hx) ?_
                rintro _ w24 ⟨ys, rfl, hrot, Hc⟩
                have H25 := Hc
                refine wl_nil ?_
                first
                  | exact ⟨ys, (sc rfl (sc rfl (sc rfl (sc rfl (sc rfl (sc rfl (sc rfl (sn _)))))))), hrot, H25⟩
                  | exact ⟨xs, (sc rfl (sc rfl (sc rfl (sc rfl (sc rfl (sc rfl (sc rfl (sn _)))))))), isRot_triv (by omega) (by omega) (by omega), H25⟩
              · have c11p := of_decide_eq_false c11
                refine wc_skip ?_
                first
                  | exact ⟨ys, (sc rfl (sc rfl (sc rfl (sc rfl (sc rfl (sc rfl (sc rfl (sn _)))))))), hrot, H⟩
                  | exact ⟨xs, (sc rfl (sc rfl (sc rfl (sc rfl (sc rfl (sc rfl (sc rfl (sn _)))))))), isRot_triv (by omega) (by omega) (by omega), H⟩
            · have g141p := of_decide_eq_false g141
              refine wl_off rfl rfl g141 rfl ?_
              refine wl_off rfl rfl g141 rfl ?_
              refine wl_v rfl rfl rfl (v_pick_f rfl g141 rfl) ?_
              refine wl_nil ?_
              refine wc_cond_f rfl ?_
              refine wc_skip ?_
              first
                | exact ⟨ys, (sc rfl (sc rfl (sc rfl (sc rfl (sc rfl (sc rfl (sc rfl (sn _)))))))), hrot, H⟩
                | exact ⟨xs, (sc rfl (sc rfl (sc rfl (sc rfl (sc rfl (sc rfl (sc rfl (sn _)))))))), isRot_triv (by omega) (by omega) (by omega), H⟩
          · rintro ys Wm ⟨hrot, H⟩
            obtain ⟨ht1, ht2, hX⟩ := hfo.rot ht hrot
            have hyl := hrot.perm.length_eq
            refine wc_cut (σ := List Int) (fun s => [(1, .int .i64 a), (2, .int .i64 m), (3, .int .i64 b), (4, .pointer (some ⟨b4, 0, none⟩)), (16, .int .i64 d), (18, .int .i64 st), (22, .int .i64 (d + m - st : Nat))]) (fun s W => Srtd (lnR rows) ys s a d ∧ Holds w0 (Blk b4 152 [.func (.func 57) #[] #[.pointer (some ⟨b2, 0, none⟩), .pointer (some ⟨b6, 0, none⟩)], .func (.func 83) #[] #[.slice (some ⟨g, 0, none⟩) n n, typeHandle Try.prog 3]] :: LL s) W) ?_ ?_
            · refine wc_seq ?_
              refine wc_region ?_
              refine wl_v rfl rfl rfl (v_move rfl) ?_
              refine wl_v rfl rfl rfl (v_move rfl) ?_
              refine wl_v rfl rfl rfl (v_lss rfl rfl) ?_
              refine wl_v rfl rfl rfl (v_move rfl) ?_
              refine wl_guard rfl rfl rfl (fun g154 => ?_) (fun g154 => ?_)
              · have g154p := of_decide_eq_true g154
                refine wl_v rfl rfl rfl (v_move rfl) ?_
                refine wl_on' rfl rfl g154 ?_
                refine wl_v rfl rfl rfl (v_move rfl) ?_
                refine wl_on' rfl rfl g154 ?_
                refine wl_v rfl rfl rfl (v_lss rfl rfl) ?_
                refine wl_v rfl rfl rfl (v_pick_t rfl g154 rfl) ?_
                refine wl_nil ?_
                refine wc_cond rfl (fun c12 => ?_) (fun c12 => ?_)
                · have c12p := of_decide_eq_true c12
                  refine wc_region ?_
                  refine wl_v rfl rfl rfl (v_loadN agg152 rfl rfl (H.ats (by repeat constructor))) ?_
                  refine wl_v rfl rfl rfl (v_move rfl) ?_
                  refine wl_v rfl rfl rfl (v_move rfl) ?_
                  refine wl_v rfl rfl rfl (v_move rfl) ?_
                  refine wl_call en89 rfl rfl (ih w0 _ ys (fun y => Blk b4 152 [.func (.func 57) #[] #[.pointer (some ⟨b2, 0, none⟩), .pointer (some ⟨b6, 0, none⟩)], .func (.func 83) #[] #[.slice (some ⟨g, 0, none⟩) n n, typeHandle Try.prog 3]] :: LL y) a st d hR (fun x y => .there _ (UU x y)) (fun x => .there _ (U6 x)) (fun x => .there _ (U2 x)) H (by omega) (by omega) (fun x hxm => hrg x (hrot.perm.mem_iff.1 hxm)) (by omega) (by omega) (by omega) ht1 (by omega)) ?_
                  rintro _ w26 ⟨zs, rfl, hs1, Hc⟩
                  have H27 := Hc
                  refine wl_nil ?_
                  first
                    | exact ⟨zs, (sc rfl (sc rfl (sc rfl (sc rfl (sc rfl (sc rfl (sc rfl (sn _)))))))), hs1, H27⟩
                    | exact ⟨ys, (sc rfl (sc rfl (sc rfl (sc rfl (sc rfl (sc rfl (sc rfl (sn _)))))))), ht1.triv (by omega), H27⟩
                · have c12p := of_decide_eq_false c12
                  refine wc_skip ?_
                  first
                    | exact ⟨zs, (sc rfl (sc rfl (sc rfl (sc rfl (sc rfl (sc rfl (sc rfl (sn _)))))))), hs1, H⟩
                    | exact ⟨ys, (sc rfl (sc rfl (sc rfl (sc rfl (sc rfl (sc rfl (sc rfl (sn _)))))))), ht1.triv (by omega), H⟩
              · have g154p := of_decide_eq_false g154
                refine wl_off rfl rfl g154 rfl ?_
                refine wl_off rfl rfl g154 rfl ?_
                refine wl_v rfl rfl rfl (v_pick_f rfl g154 rfl) ?_
                refine wl_nil ?_
                refine wc_cond_f rfl ?_
                refine wc_skip ?_
                first
                  | exact ⟨zs, (sc rfl (sc rfl (sc rfl (sc rfl (sc rfl (sc rfl (sc rfl (sn _)))))))), hs1, H⟩
                  | exact ⟨ys, (sc rfl (sc rfl (sc rfl (sc rfl (sc rfl (sc rfl (sc rfl (sn _)))))))), ht1.triv (by omega), H⟩
            · rintro zs Wm ⟨hs1, H⟩
              have hzp := hs1.perm.trans hrot.perm
              have hzl := hzp.length_eq
              have ht3 := ht2.same (fun q hq => hs1.out q (.inr hq)) (by omega)
              refine wc_seq ?_
              refine wc_region ?_
              refine wl_v rfl rfl rfl (v_move rfl) ?_
              refine wl_v rfl rfl rfl (v_move rfl) ?_
              refine wl_v rfl rfl rfl (v_lss rfl rfl) ?_
              refine wl_v rfl rfl rfl (v_move rfl) ?_
              refine wl_guard rfl rfl rfl (fun g167 => ?_) (fun g167 => ?_)
              · have g167p := of_decide_eq_true g167
                refine wl_v rfl rfl rfl (v_move rfl) ?_
                refine wl_on' rfl rfl g167 ?_
                refine wl_v rfl rfl rfl (v_move rfl) ?_
                refine wl_on' rfl rfl g167 ?_
                refine wl_v rfl rfl rfl (v_lss rfl rfl) ?_
                refine wl_v rfl rfl rfl (v_pick_t rfl g167 rfl) ?_
                refine wl_nil ?_
                refine wc_cond rfl (fun c13 => ?_) (fun c13 => ?_)
                · have c13p := of_decide_eq_true c13
                  refine wc_region ?_
                  refine wl_v rfl rfl rfl (v_loadN agg152 rfl rfl (H.ats (by repeat constructor))) ?_
                  refine wl_v rfl rfl rfl (v_move rfl) ?_
                  refine wl_v rfl rfl rfl (v_move rfl) ?_
                  refine wl_v rfl rfl rfl (v_move rfl) ?_
                  refine wl_call en89 rfl rfl (ih w0 _ zs (fun y => Blk b4 152 [.func (.func 57) #[] #[.pointer (some ⟨b2, 0, none⟩), .pointer (some ⟨b6, 0, none⟩)], .func (.func 83) #[] #[.slice (some ⟨g, 0, none⟩) n n, typeHandle Try.prog 3]] :: LL y) d (d + m - st) b hR (fun x y => .there _ (UU x y)) (fun x => .there _ (U6 x)) (fun x => .there _ (U2 x)) H (by omega) (by omega) (fun x hxm => hrg x (hzp.mem_iff.1 hxm)) (by omega) (by omega) (by omega) ht3 (by omega)) ?_
                  rintro _ w28 ⟨us, rfl, hs2, Hc⟩
                  have H29 := Hc
                  refine wl_nil ?_
                  first
                    | exact ⟨_, res0 rfl, _, rfl, baseU ht (k := s) (by omega) hbl (fun q e1 e2 => h4 q e1 (by omega)) (fun q e1 e2 => h5 q (by omega) e2), H29.tail⟩
                    | exact ⟨_, res0 rfl, _, rfl, baseD ht (k := s) (by omega) (by omega) (fun q e1 e2 => h5 q (by omega) e2) (fun q e1 e2 => h4 q e1 (by omega)), H29.tail⟩
                    | exact ⟨_, res0 rfl, _, rfl, merged hfo hrot (by omega) (by omega) hX hs1 hs2, H29.tail⟩
                    | exact ⟨_, res0 rfl, _, rfl, merged hfo hrot (by omega) (by omega) hX hs1 (ht3.triv (by omega)), H29.tail⟩
                · have c13p := of_decide_eq_false c13
                  refine wc_skip ?_
                  first
                    | exact ⟨_, res0 rfl, _, rfl, baseU ht (k := s) (by omega) hbl (fun q e1 e2 => h4 q e1 (by omega)) (fun q e1 e2 => h5 q (by omega) e2), H.tail⟩
                    | exact ⟨_, res0 rfl, _, rfl, baseD ht (k := s) (by omega) (by omega) (fun q e1 e2 => h5 q (by omega) e2) (fun q e1 e2 => h4 q e1 (by omega)), H.tail⟩
                    | exact ⟨_, res0 rfl, _, rfl, merged hfo hrot (by omega) (by omega) hX hs1 hs2, H.tail⟩
                    | exact ⟨_, res0 rfl, _, rfl, merged hfo hrot (by omega) (by omega) hX hs1 (ht3.triv (by omega)), H.tail⟩
              · have g167p := of_decide_eq_false g167
                refine wl_off rfl rfl g167 rfl ?_
                refine wl_off rfl rfl g167 rfl ?_
                refine wl_v rfl rfl rfl (v_pick_f rfl g167 rfl) ?_
                refine wl_nil ?_
                refine wc_cond_f rfl ?_
                refine wc_skip ?_
                first
                  | exact ⟨_, res0 rfl, _, rfl, baseU ht (k := s) (by omega) hbl (fun q e1 e2 => h4 q e1 (by omega)) (fun q e1 e2 => h5 q (by omega) e2), H.tail⟩
                  | exact ⟨_, res0 rfl, _, rfl, baseD ht (k := s) (by omega) (by omega) (fun q e1 e2 => h5 q (by omega) e2) (fun q e1 e2 => h4 q e1 (by omega)), H.tail⟩
                  | exact ⟨_, res0 rfl, _, rfl, merged hfo hrot (by omega) (by omega) hX hs1 hs2, H.tail⟩
                  | exact ⟨_, res0 rfl, _, rfl, merged hfo hrot (by omega) (by omega) hX hs1 (ht3.triv (by omega)), H.tail⟩

theorem merge_ok {R : Option Addr} {cr b2 b6 g n : Nat} {rows : List (List Int)} : ∀ k, SymOk R cr b2 b6 g n rows k
  | 0 => fun w0 w xs LL a m b _ _ _ _ _ _ _ _ ham hmb _ _ hk => absurd hk (by omega)
  | k + 1 => fun w0 w xs LL a m b hR UU U6 U2 HH hn hx hrg ham hmb hbl ht hk => merge_step hR UU U6 U2 HH hn hx hrg ham hmb hbl ht (merge_ok k) hk
end Go.Proofs.Ytkpehkadammppaa.Merge
