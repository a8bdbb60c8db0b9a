/- Ranges of the order change places. -/
import Derived.Test.YtkpehkadammppaaProg
import Derived.Test.YtkpehkadammppaaSwapW
import Derived.Test.YtkpehkadammppaaLess
import Derived.Test.YtkpehkadammppaaSrt
set_option linter.unusedVariables false
set_option linter.unusedSimpArgs false
namespace Go.Proofs.Ytkpehkadammppaa.Rot
open Go Go.RowKit Go.Proofs.YtkpehkadammppaaFx Go.Proofs.Ytkpehkadammppaa.SwapW Go.Proofs.Ytkpehkadammppaa.Less
theorem agg152 : Agg Try.prog 152 2 := agg_of Try.underlying152 (by kernel_rfl)
theorem en91 : Enters Try.prog 91 := enters Try.func91 (by kernel_rfl) rfl
theorem fa152_1 : FieldAt Try.prog 152 1 1 := field_at (sz := 0) Try.underlying152 rfl (by kernel_rfl) rfl
theorem one135 : One Try.prog 135 := one_of Try.underlying135 rfl (by kernel_rfl)

set_option maxRecDepth 100000 in
theorem swapRange_calls {b2 b6 g n : Nat} {w0 w : World} {xs : List Int} {LL : List Int → List Ch} {a b m : Nat} (UU : ∀ x y, Upd (LL x) (Row (fInt .i64) 3 (.slice (some ⟨g, 0, none⟩) n n) x) (Row (fInt .i64) 3 (.slice (some ⟨g, 0, none⟩) n n) y) (LL y)) (HH : Holds w0 (LL xs) w) (ha : a + m ≤ xs.length) (hb : b + m ≤ xs.length) (hx : xs.length ≤ 1099511627776) :
    Calls Try.prog 91 #[.agg #[.func (.func 57) #[] #[.pointer (some ⟨b2, 0, none⟩), .pointer (some ⟨b6, 0, none⟩)], .func (.func 83) #[] #[.slice (some ⟨g, 0, none⟩) n n, typeHandle Try.prog 3]], .int .i64 a, .int .i64 b, .int .i64 m] w fun e w' => ∃ v, e = .returned v ∧ v = .tuple #[] ∧ Holds w0 (LL (swR xs a b m)) w' := by
  refine calls_of Try.func91 rfl Try.ntmps91 rfl ?_
  have H := HH
  refine wc_seq ?_
  refine wc_region ?_
  refine wl_box (cs := [_, _]) H rfl rfl rfl ?_
  intro b4 w1 hb4 H2
  refine wl_nil ?_
  refine wc_seq ?_
  refine wc_region ?_
  refine wl_v rfl rfl rfl (v_assign rfl) ?_
  refine wl_nil ?_
  refine wc_block ?_
  refine wc_loop (σ := Nat) (fun s => [(1, .int .i64 a), (2, .int .i64 b), (3, .int .i64 m), (4, .pointer (some ⟨b4, 0, none⟩)), (8, .int .i64 s)]) (fun s W => s ≤ m ∧ Holds w0 (Blk b4 152 [.func (.func 57) #[] #[.pointer (some ⟨b2, 0, none⟩), .pointer (some ⟨b6, 0, none⟩)], .func (.func 83) #[] #[.slice (some ⟨g, 0, none⟩) n n, typeHandle Try.prog 3]] :: LL (swR xs a b s)) W) (fun s => m - s) 0 (sc rfl (sc rfl (sc rfl (sc rfl (sc rfl (sn _)))))) ⟨Nat.zero_le _, H2⟩ ?_
  rintro s W0 ⟨hs, H⟩
  refine wc_seq ?_
  refine wc_seq ?_
  refine wc_region ?_
  refine wl_v rfl rfl rfl (v_move rfl) ?_
  refine wl_v rfl rfl rfl (v_move rfl) ?_
  refine wl_v rfl rfl rfl (v_lss rfl rfl) ?_
  refine wl_nil ?_
  refine wc_cond rfl (fun c0 => ?_) (fun c0 => ?_)
  · have c0p := of_decide_eq_true c0
    have hl := swR_len xs a b s
    refine wc_skip ?_
    refine wc_seq ?_
    refine wc_block ?_
    refine wc_region ?_
    refine wl_v rfl rfl rfl (v_fb (o2 := 1) fa152_1 rfl rfl) ?_
    refine wl_v rfl rfl rfl (v_load one135 rfl (H.at (by repeat constructor) rfl)) ?_
    refine wl_v rfl rfl rfl (v_move rfl) ?_
    refine wl_v rfl rfl rfl (v_move rfl) ?_
    refine wl_v rfl rfl rfl (v_addi rfl rfl (by omega)) ?_
    refine wl_v rfl rfl rfl (v_move rfl) ?_
    refine wl_v rfl rfl rfl (v_move rfl) ?_
    refine wl_v rfl rfl rfl (v_addi rfl rfl (by omega)) ?_
    obtain ⟨ws3, hsw, H3⟩ := swap_run (g := g) (n := n) (i := a + s) (j := b + s) (xs := swR xs a b s) H (.there _ (UU _ _)) (by omega) (by omega)
    refine wl_extv (first := []) (vs := [.int .i64 ((a + s : Nat) : Int), .int .i64 ((b + s : Nat) : Int)]) (captured := [.slice (some ⟨g, 0, none⟩) n n, typeHandle Try.prog 3]) rfl rfl rfl hsw ?_
    refine wl_nil ?_
    refine wc_region ?_
    refine wl_v rfl rfl rfl (v_move rfl) ?_
    refine wl_v rfl rfl rfl (v_addi rfl rfl (by omega)) ?_
    refine wl_v rfl rfl rfl (v_assign rfl) ?_
    refine wl_nil ?_
    exact ⟨s + 1, (sc rfl (sc rfl (sc rfl (sc rfl (sc rfl (sn _)))))), ⟨by omega, H3⟩, by omega⟩
  · have c0p := of_decide_eq_false c0
    have hse : s = m := by omega
    subst hse
    refine wc_exit ?_
    exact ⟨_, res0 rfl, rfl, H.tail⟩

set_option maxRecDepth 100000 in
theorem rotate_calls {b2 b6 g n : Nat} {w0 w : World} {xs : List Int} {LL : List Int → List Ch} {a m b : Nat} (UU : ∀ x y, Upd (LL x) (Row (fInt .i64) 3 (.slice (some ⟨g, 0, none⟩) n n) x) (Row (fInt .i64) 3 (.slice (some ⟨g, 0, none⟩) n n) y) (LL y)) (HH : Holds w0 (LL xs) w) (ha : a < m) (hb : m < b) (hl : b ≤ xs.length) (hx : xs.length ≤ 1099511627776) :
    Calls Try.prog 90 #[.agg #[.func (.func 57) #[] #[.pointer (some ⟨b2, 0, none⟩), .pointer (some ⟨b6, 0, none⟩)], .func (.func 83) #[] #[.slice (some ⟨g, 0, none⟩) n n, typeHandle Try.prog 3]], .int .i64 a, .int .i64 m, .int .i64 b] w fun e w' => ∃ v, e = .returned v ∧ ∃ ys, v = .tuple #[] ∧ IsRot xs ys a m b ∧ Holds w0 (LL ys) w' := by
  refine calls_of Try.func90 rfl Try.ntmps90 rfl ?_
  have H := HH
  refine wc_seq ?_
  refine wc_region ?_
  refine wl_box (cs := [_, _]) H rfl rfl rfl ?_
  intro b4 w1 hb4 H2
  refine wl_nil ?_
  refine wc_seq ?_
  refine wc_region ?_
  refine wl_v rfl rfl rfl (v_move rfl) ?_
  refine wl_v rfl rfl rfl (v_move rfl) ?_
  refine wl_v rfl rfl rfl (v_subi rfl rfl (by omega)) ?_
  refine wl_v rfl rfl rfl (v_assign rfl) ?_
  refine wl_nil ?_
  refine wc_seq ?_
  refine wc_region ?_
  refine wl_v rfl rfl rfl (v_move rfl) ?_
  refine wl_v rfl rfl rfl (v_move rfl) ?_
  refine wl_v rfl rfl rfl (v_subi rfl rfl (by omega)) ?_
  refine wl_v rfl rfl rfl (v_assign rfl) ?_
  refine wl_nil ?_
  refine wc_seq ?_
  refine wc_block ?_
  refine wc_loop (σ := Nat × Nat × List Int) (fun s => [(2, .int .i64 m), (4, .pointer (some ⟨b4, 0, none⟩)), (8, .int .i64 s.1), (9, .int .i64 s.2.1)]) (fun s W => (0 < s.1 ∧ 0 < s.2.1 ∧ s.1 ≤ m ∧ m + s.2.1 ≤ xs.length ∧ s.2.2.length = xs.length ∧ ∀ zs, IsRot s.2.2 zs (m - s.1) m (m + s.2.1) → IsRot xs zs a m b) ∧ Holds w0 (Blk b4 152 [.func (.func 57) #[] #[.pointer (some ⟨b2, 0, none⟩), .pointer (some ⟨b6, 0, none⟩)], .func (.func 83) #[] #[.slice (some ⟨g, 0, none⟩) n n, typeHandle Try.prog 3]] :: LL s.2.2) W) (fun s => s.1 + s.2.1) (m - a, b - m, xs) (by rw [Int.natCast_sub (by omega), Int.natCast_sub (by omega)]; exact (sc rfl (sc rfl (sc rfl (sc rfl (sn _)))))) ⟨⟨by dsimp only; omega, by dsimp only; omega, by dsimp only; omega, by dsimp only; omega, rfl, fun zs h => by dsimp only at h; rwa [show m - (m - a) = a by omega, show m + (b - m) = b by omega] at h⟩, H2⟩ ?_
  rintro ⟨i, j, ys⟩ W0 ⟨⟨h1, h2, h3, h4, h5, h6⟩, H⟩
  dsimp only at h1 h2 h3 h4 h5 h6 H ⊢
  refine wc_seq ?_
  refine wc_seq ?_
  refine wc_region ?_
  refine wl_v rfl rfl rfl (v_move rfl) ?_
  refine wl_v rfl rfl rfl (v_move rfl) ?_
  refine wl_v rfl rfl rfl (v_neq rfl rfl) ?_
  refine wl_nil ?_
  refine wc_cond rfl (fun c0 => ?_) (fun c0 => ?_)
  · have c0p := of_nd_t c0
    refine wc_skip ?_
    refine wc_block ?_
    refine wc_seq ?_
    refine wc_region ?_
    refine wl_v rfl rfl rfl (v_move rfl) ?_
    refine wl_v rfl rfl rfl (v_move rfl) ?_
    refine wl_v rfl rfl rfl (v_gtr rfl rfl) ?_
    refine wl_nil ?_
    refine wc_cond rfl (fun c1 => ?_) (fun c1 => ?_)
    · have c1p := of_decide_eq_true c1
      refine wc_seq ?_
      refine wc_region ?_
      refine wl_v rfl rfl rfl (v_loadN agg152 rfl rfl (H.ats (by repeat constructor))) ?_
      refine wl_v rfl rfl rfl (v_move rfl) ?_
      refine wl_v rfl rfl rfl (v_move rfl) ?_
      refine wl_v rfl rfl rfl (v_subi rfl rfl (by omega)) ?_
      refine wl_v rfl rfl rfl (v_move rfl) ?_
      refine wl_v rfl rfl rfl (v_move rfl) ?_
      refine wl_call en91 rfl rfl (by have h := swapRange_calls (b2 := b2) (b6 := b6) (xs := ys) (LL := fun y => Blk b4 152 [.func (.func 57) #[] #[.pointer (some ⟨b2, 0, none⟩), .pointer (some ⟨b6, 0, none⟩)], .func (.func 83) #[] #[.slice (some ⟨g, 0, none⟩) n n, typeHandle Try.prog 3]] :: LL y) (a := m - i) (b := m) (m := j) (fun x y => .there _ (UU x y)) H (by omega) (by omega) (by omega); rw [show ((m - i : Nat) : Int) = (m : Int) - i by omega] at h; exact h) ?_
      rintro _ w3 ⟨rfl, Hc⟩
      have H4 := Hc
      refine wl_nil ?_
      refine wc_region ?_
      refine wl_v rfl rfl rfl (v_move rfl) ?_
      refine wl_v rfl rfl rfl (v_move rfl) ?_
      refine wl_v rfl rfl rfl (v_subi rfl rfl (by omega)) ?_
      refine wl_v rfl rfl rfl (v_assign rfl) ?_
      refine wl_nil ?_
      first
        | exact ⟨(i - j, j, swR ys (m - i) m j), by rw [Int.natCast_sub (by omega)]; exact (sc rfl (sc rfl (sc rfl (sc rfl (sn _))))), ⟨⟨by dsimp only; omega, h2, by dsimp only; omega, h4, by rw [swR_len]; exact h5, fun zs h => h6 zs (rotA (by omega) h3 (by omega) (by dsimp only at h; rwa [show m - (i - j) = m - i + j by omega] at h))⟩, H4⟩, by dsimp only; omega⟩
        | exact ⟨(i, j - i, swR ys (m - i) (m + j - i) i), by rw [Int.natCast_sub (by omega)]; exact (sc rfl (sc rfl (sc rfl (sc rfl (sn _))))), ⟨⟨h1, by dsimp only; omega, h3, by dsimp only; omega, by rw [swR_len]; exact h5, fun zs h => h6 zs (rotB (by omega) h3 (by omega) h)⟩, H4⟩, by dsimp only; omega⟩
    · have c1p := of_decide_eq_false c1
      refine wc_seq ?_
      refine wc_region ?_
      refine wl_v rfl rfl rfl (v_loadN agg152 rfl rfl (H.ats (by repeat constructor))) ?_
      refine wl_v rfl rfl rfl (v_move rfl) ?_
      refine wl_v rfl rfl rfl (v_move rfl) ?_
      refine wl_v rfl rfl rfl (v_subi rfl rfl (by omega)) ?_
      refine wl_v rfl rfl rfl (v_move rfl) ?_
      refine wl_v rfl rfl rfl (v_move rfl) ?_
      refine wl_v rfl rfl rfl (v_addi rfl rfl (by omega)) ?_
      refine wl_v rfl rfl rfl (v_move rfl) ?_
      refine wl_v rfl rfl rfl (v_subi rfl rfl (by omega)) ?_
      refine wl_v rfl rfl rfl (v_move rfl) ?_
      refine wl_call en91 rfl rfl (by have h := swapRange_calls (b2 := b2) (b6 := b6) (xs := ys) (LL := fun y => Blk b4 152 [.func (.func 57) #[] #[.pointer (some ⟨b2, 0, none⟩), .pointer (some ⟨b6, 0, none⟩)], .func (.func 83) #[] #[.slice (some ⟨g, 0, none⟩) n n, typeHandle Try.prog 3]] :: LL y) (a := m - i) (b := m + j - i) (m := i) (fun x y => .there _ (UU x y)) H (by omega) (by omega) (by omega); rw [show ((m - i : Nat) : Int) = (m : Int) - i by omega, show ((m + j - i : Nat) : Int) = (m : Int) + j - i by omega] at h; exact h) ?_
      rintro _ w5 ⟨rfl, Hc⟩
      have H6 := Hc
      refine wl_nil ?_
      refine wc_region ?_
      refine wl_v rfl rfl rfl (v_move rfl) ?_
      refine wl_v rfl rfl rfl (v_move rfl) ?_
      refine wl_v rfl rfl rfl (v_subi rfl rfl (by omega)) ?_
      refine wl_v rfl rfl rfl (v_assign rfl) ?_
      refine wl_nil ?_
      first
        | exact ⟨(i - j, j, swR ys (m - i) m j), by rw [Int.natCast_sub (by omega)]; exact (sc rfl (sc rfl (sc rfl (sc rfl (sn _))))), ⟨⟨by dsimp only; omega, h2, by dsimp only; omega, h4, by rw [swR_len]; exact h5, fun zs h => h6 zs (rotA (by omega) h3 (by omega) (by dsimp only at h; rwa [show m - (i - j) = m - i + j by omega] at h))⟩, H6⟩, by dsimp only; omega⟩
        | exact ⟨(i, j - i, swR ys (m - i) (m + j - i) i), by rw [Int.natCast_sub (by omega)]; exact (sc rfl (sc rfl (sc rfl (sc rfl (sn _))))), ⟨⟨h1, by dsimp only; omega, h3, by dsimp only; omega, by rw [swR_len]; exact h5, fun zs h => h6 zs (rotB (by omega) h3 (by omega) h)⟩, H6⟩, by dsimp only; omega⟩
  · have c0p := of_nd_f c0
    refine wc_exit ?_
    refine wc_region ?_
    refine wl_v rfl rfl rfl (v_loadN agg152 rfl rfl (H.ats (by repeat constructor))) ?_
    refine wl_v rfl rfl rfl (v_move rfl) ?_
    refine wl_v rfl rfl rfl (v_move rfl) ?_
    refine wl_v rfl rfl rfl (v_subi rfl rfl (by omega)) ?_
    refine wl_v rfl rfl rfl (v_move rfl) ?_
    refine wl_v rfl rfl rfl (v_move rfl) ?_
    refine wl_call en91 rfl rfl (by have h := swapRange_calls (b2 := b2) (b6 := b6) (xs := ys) (LL := fun y => Blk b4 152 [.func (.func 57) #[] #[.pointer (some ⟨b2, 0, none⟩), .pointer (some ⟨b6, 0, none⟩)], .func (.func 83) #[] #[.slice (some ⟨g, 0, none⟩) n n, typeHandle Try.prog 3]] :: LL y) (a := m - i) (b := m) (m := i) (fun x y => .there _ (UU x y)) H (by omega) (by omega) (by omega); rw [show ((m - i : Nat) : Int) = (m : Int) - i by omega] at h; exact h) ?_
    rintro _ w7 ⟨rfl, Hc⟩
    have H8 := Hc
    refine wl_nil ?_
    exact ⟨_, res0 rfl, _, rfl, h6 _ (by rw [show j = i by omega]; exact rotE h3 (by omega)), H8.tail⟩
end Go.Proofs.Ytkpehkadammppaa.Rot
