/- Ranges of the order change places. Shifts. Merging two sorted stretches of the order. Insertion sort of the order. The stable sort of the order. sort.SliceStable of the order, two elements or more. What table.free tells. How rows are laid over one another. Packed tables as plain data; what they say of a state and a kind. Tables packed: plain definitions. -/
import Derived.Test.YtkpehkadammppaaProg
import Derived.Test.YtkpehkadammppaaK02
import Derived.Test.YtkpehkadammppaaK01
set_option linter.unusedVariables false
set_option linter.unusedSimpArgs false
/-! Ranges of the order change places. -/
namespace Go.Proofs.Ytkpehkadammppaa.Rot
open Go Go.RowKit Go.Proofs.YtkpehkadammppaaFx Go.Proofs.Ytkpehkadammppaa.SwapW Go.Proofs.Ytkpehkadammppaa.Less
theorem agg152 : Agg Try.prog 152 2 := agg_of Try.underlying152 (by kernel_rfl)
theorem en91 : Enters Try.prog 91 := enters Try.func91 (by kernel_rfl) rfl
theorem fa152_1 : FieldAt Try.prog 152 1 1 := field_at (sz := 0) Try.underlying152 rfl (by kernel_rfl) rfl
theorem one135 : One Try.prog 135 := one_of Try.underlying135 rfl (by kernel_rfl)

set_option maxRecDepth 100000 in
theorem swapRange_calls {b2 b6 g n : Nat} {w0 w : World} {xs : List Int} {LL : List Int → List Ch} {a b m : Nat} (UU : ∀ x y, Upd (LL x) (Row (fInt .i64) 3 (.slice (some ⟨g, 0, none⟩) n n) x) (Row (fInt .i64) 3 (.slice (some ⟨g, 0, none⟩) n n) y) (LL y)) (HH : Holds w0 (LL xs) w) (ha : a + m ≤ xs.length) (hb : b + m ≤ xs.length) (hx : xs.length ≤ 1099511627776) :
    Calls Try.prog 91 #[.agg #[.func (.func 57) #[] #[.pointer (some ⟨b2, 0, none⟩), .pointer (some ⟨b6, 0, none⟩)], .func (.func 83) #[] #[.slice (some ⟨g, 0, none⟩) n n, typeHandle Try.prog 3]], .int .i64 a, .int .i64 b, .int .i64 m] w fun e w' => ∃ v, e = .returned v ∧ v = .tuple #[] ∧ Holds w0 (LL (swR xs a b m)) w' := by
  refine calls_of Try.func91 rfl Try.ntmps91 rfl ?_
  have H := HH
  refine wc_seq ?_
  refine wc_region ?_
  refine wl_box (cs := [_, _]) H rfl rfl rfl ?_
  intro b4 w1 hb4 H2
  refine wl_nil ?_
  refine wc_seq ?_
  refine wc_region ?_
  refine wl_v rfl rfl rfl (v_assign rfl) ?_
  refine wl_nil ?_
  refine wc_block ?_
  refine wc_loop (σ := Nat) (fun s => [(1, .int .i64 a), (2, .int .i64 b), (3, .int .i64 m), (4, .pointer (some ⟨b4, 0, none⟩)), (8, .int .i64 s)]) (fun s W => s ≤ m ∧ Holds w0 (Blk b4 152 [.func (.func 57) #[] #[.pointer (some ⟨b2, 0, none⟩), .pointer (some ⟨b6, 0, none⟩)], .func (.func 83) #[] #[.slice (some ⟨g, 0, none⟩) n n, typeHandle Try.prog 3]] :: LL (swR xs a b s)) W) (fun s => m - s) 0 (sc rfl (sc rfl (sc rfl (sc rfl (sc rfl (sn _)))))) ⟨Nat.zero_le _, H2⟩ ?_
  rintro s W0 ⟨hs, H⟩
  refine wc_seq ?_
  refine wc_seq ?_
  refine wc_region ?_
  refine wl_v rfl rfl rfl (v_move rfl) ?_
  refine wl_v rfl rfl rfl (v_move rfl) ?_
  refine wl_v rfl rfl rfl (v_lss rfl rfl) ?_
  refine wl_nil ?_
  refine wc_cond rfl (fun c0 => ?_) (fun c0 => ?_)
  · have c0p := of_decide_eq_true c0
    have hl := swR_len xs a b s
    refine wc_skip ?_
    refine wc_seq ?_
    refine wc_block ?_
    refine wc_region ?_
    refine wl_v rfl rfl rfl (v_fb (o2 := 1) fa152_1 rfl rfl) ?_
    refine wl_v rfl rfl rfl (v_load one135 rfl (H.at (by repeat constructor) rfl)) ?_
    refine wl_v rfl rfl rfl (v_move rfl) ?_
    refine wl_v rfl rfl rfl (v_move rfl) ?_
    refine wl_v rfl rfl rfl (v_addi rfl rfl (by omega)) ?_
    refine wl_v rfl rfl rfl (v_move rfl) ?_
    refine wl_v rfl rfl rfl (v_move rfl) ?_
    refine wl_v rfl rfl rfl (v_addi rfl rfl (by omega)) ?_
    obtain ⟨ws3, hsw, H3⟩ := swap_run (g := g) (n := n) (i := a + s) (j := b + s) (xs := swR xs a b s) H (.there _ (UU _ _)) (by omega) (by omega)
    refine wl_extv (first := []) (vs := [.int .i64 ((a + s : Nat) : Int), .int .i64 ((b + s : Nat) : Int)]) (captured := [.slice (some ⟨g, 0, none⟩) n n, typeHandle Try.prog 3]) rfl rfl rfl hsw ?_
    refine wl_nil ?_
    refine wc_region ?_
    refine wl_v rfl rfl rfl (v_move rfl) ?_
    refine wl_v rfl rfl rfl (v_addi rfl rfl (by omega)) ?_
    refine wl_v rfl rfl rfl (v_assign rfl) ?_
    refine wl_nil ?_
    exact ⟨s + 1, (sc rfl (sc rfl (sc rfl (sc rfl (sc rfl (sn _)))))), ⟨by omega, H3⟩, by omega⟩
  · have c0p := of_decide_eq_false c0
    have hse : s = m := by omega
    subst hse
    refine wc_exit ?_
    exact ⟨_, res0 rfl, rfl, H.tail⟩

set_option maxRecDepth 100000 in
theorem rotate_calls {b2 b6 g n : Nat} {w0 w : World} {xs : List Int} {LL : List Int → List Ch} {a m b : Nat} (UU : ∀ x y, Upd (LL x) (Row (fInt .i64) 3 (.slice (some ⟨g, 0, none⟩) n n) x) (Row (fInt .i64) 3 (.slice (some ⟨g, 0, none⟩) n n) y) (LL y)) (HH : Holds w0 (LL xs) w) (ha : a < m) (hb : m < b) (hl : b ≤ xs.length) (hx : xs.length ≤ 1099511627776) :
    Calls Try.prog 90 #[.agg #[.func (.func 57) #[] #[.pointer (some ⟨b2, 0, none⟩), .pointer (some ⟨b6, 0, none⟩)], .func (.func 83) #[] #[.slice (some ⟨g, 0, none⟩) n n, typeHandle Try.prog 3]], .int .i64 a, .int .i64 m, .int .i64 b] w fun e w' => ∃ v, e = .returned v ∧ ∃ ys, v = .tuple #[] ∧ IsRot xs ys a m b ∧ Holds w0 (LL ys) w' := by
  refine calls_of Try.func90 rfl Try.ntmps90 rfl ?_
  have H := HH
  refine wc_seq ?_
  refine wc_region ?_
  refine wl_box (cs := [_, _]) H rfl rfl rfl ?_
  intro b4 w1 hb4 H2
  refine wl_nil ?_
  refine wc_seq ?_
  refine wc_region ?_
  refine wl_v rfl rfl rfl (v_move rfl) ?_
  refine wl_v rfl rfl rfl (v_move rfl) ?_
  refine wl_v rfl rfl rfl (v_subi rfl rfl (by omega)) ?_
  refine wl_v rfl rfl rfl (v_assign rfl) ?_
  refine wl_nil ?_
  refine wc_seq ?_
  refine wc_region ?_
  refine wl_v rfl rfl rfl (v_move rfl) ?_
  refine wl_v rfl rfl rfl (v_move rfl) ?_
  refine wl_v rfl rfl rfl (v_subi rfl rfl (by omega)) ?_
  refine wl_v rfl rfl rfl (v_assign rfl) ?_
  refine wl_nil ?_
  refine wc_seq ?_
  refine wc_block ?_
  refine wc_loop (σ := Nat × Nat × List Int) (fun s => [(2, .int .i64 m), (4, .pointer (some ⟨b4, 0, none⟩)), (8, .int .i64 s.1), (9, .int .i64 s.2.1)]) (fun s W => (0 < s.1 ∧ 0 < s.2.1 ∧ s.1 ≤ m ∧ m + s.2.1 ≤ xs.length ∧ s.2.2.length = xs.length ∧ ∀ zs, IsRot s.2.2 zs (m - s.1) m (m + s.2.1) → IsRot xs zs a m b) ∧ Holds w0 (Blk b4 152 [.func (.func 57) #[] #[.pointer (some ⟨b2, 0, none⟩), .pointer (some ⟨b6, 0, none⟩)], .func (.func 83) #[] #[.slice (some ⟨g, 0, none⟩) n n, typeHandle Try.prog 3]] :: LL s.2.2) W) (fun s => s.1 + s.2.1) (m - a, b - m, xs) (by rw [Int.natCast_sub (by omega), Int.natCast_sub (by omega)]; exact (sc rfl (sc rfl (sc rfl (sc rfl (sn _)))))) ⟨⟨by dsimp only; omega, by dsimp only; omega, by dsimp only; omega, by dsimp only; omega, rfl, fun zs h => by dsimp only at h; rwa [show m - (m - a) = a by omega, show m + (b - m) = b by omega] at h⟩, H2⟩ ?_
  rintro ⟨i, j, ys⟩ W0 ⟨⟨h1, h2, h3, h4, h5, h6⟩, H⟩
  dsimp only at h1 h2 h3 h4 h5 h6 H ⊢
  refine wc_seq ?_
  refine wc_seq ?_
  refine wc_region ?_
  refine wl_v rfl rfl rfl (v_move rfl) ?_
  refine wl_v rfl rfl rfl (v_move rfl) ?_
  refine wl_v rfl rfl rfl (v_neq rfl rfl) ?_
  refine wl_nil ?_
  refine wc_cond rfl (fun c0 => ?_) (fun c0 => ?_)
  · have c0p := of_nd_t c0
    refine wc_skip ?_
    refine wc_block ?_
    refine wc_seq ?_
    refine wc_region ?_
    refine wl_v rfl rfl rfl (v_move rfl) ?_
    refine wl_v rfl rfl rfl (v_move rfl) ?_
    refine wl_v rfl rfl rfl (v_gtr rfl rfl) ?_
    refine wl_nil ?_
    refine wc_cond rfl (fun c1 => ?_) (fun c1 => ?_)
    · have c1p := of_decide_eq_true c1
      refine wc_seq ?_
      refine wc_region ?_
      refine wl_v rfl rfl rfl (v_loadN agg152 rfl rfl (H.ats (by repeat constructor))) ?_
      refine wl_v rfl rfl rfl (v_move rfl) ?_
      refine wl_v rfl rfl rfl (v_move rfl) ?_
      refine wl_v rfl rfl rfl (v_subi rfl rfl (by omega)) ?_
      refine wl_v rfl rfl rfl (v_move rfl) ?_
      refine wl_v rfl rfl rfl (v_move rfl) ?_
      refine wl_call en91 rfl rfl (by have h := swapRange_calls (b2 := b2) (b6 := b6) (xs := ys) (LL := fun y => Blk b4 152 [.func (.func 57) #[] #[.pointer (some ⟨b2, 0, none⟩), .pointer (some ⟨b6, 0, none⟩)], .func (.func 83) #[] #[.slice (some ⟨g, 0, none⟩) n n, typeHandle Try.prog 3]] :: LL y) (a := m - i) (b := m) (m := j) (fun x y => .there _ (UU x y)) H (by omega) (by omega) (by omega); rw [show ((m - i : Nat) : Int) = (m : Int) - i by omega] at h; exact h) ?_
      rintro _ w3 ⟨rfl, Hc⟩
      have H4 := Hc
      refine wl_nil ?_
      refine wc_region ?_
      refine wl_v rfl rfl rfl (v_move rfl) ?_
      refine wl_v rfl rfl rfl (v_move rfl) ?_
      refine wl_v rfl rfl rfl (v_subi rfl rfl (by omega)) ?_
      refine wl_v rfl rfl rfl (v_assign rfl) ?_
      refine wl_nil ?_
      first
        | exact ⟨(i - j, j, swR ys (m - i) m j), by rw [Int.natCast_sub (by omega)]; exact (sc rfl (sc rfl (sc rfl (sc rfl (sn _))))), ⟨⟨by dsimp only; omega, h2, by dsimp only; omega, h4, by rw [swR_len]; exact h5, fun zs h => h6 zs (rotA (by omega) h3 (by omega) (by dsimp only at h; rwa [show m - (i - j) = m - i + j by omega] at h))⟩, H4⟩, by dsimp only; omega⟩
        | exact ⟨(i, j - i, swR ys (m - i) (m + j - i) i), by rw [Int.natCast_sub (by omega)]; exact (sc rfl (sc rfl (sc rfl (sc rfl (sn _))))), ⟨⟨h1, by dsimp only; omega, h3, by dsimp only; omega, by rw [swR_len]; exact h5, fun zs h => h6 zs (rotB (by omega) h3 (by omega) h)⟩, H4⟩, by dsimp only; omega⟩
    · have c1p := of_decide_eq_false c1
      refine wc_seq ?_
      refine wc_region ?_
      refine wl_v rfl rfl rfl (v_loadN agg152 rfl rfl (H.ats (by repeat constructor))) ?_
      refine wl_v rfl rfl rfl (v_move rfl) ?_
      refine wl_v rfl rfl rfl (v_move rfl) ?_
      refine wl_v rfl rfl rfl (v_subi rfl rfl (by omega)) ?_
      refine wl_v rfl rfl rfl (v_move rfl) ?_
      refine wl_v rfl rfl rfl (v_move rfl) ?_
      refine wl_v rfl rfl rfl (v_addi rfl rfl (by omega)) ?_
      refine wl_v rfl rfl rfl (v_move rfl) ?_
      refine wl_v rfl rfl rfl (v_subi rfl rfl (by omega)) ?_
      refine wl_v rfl rfl rfl (v_move rfl) ?_
      refine wl_call en91 rfl rfl (by have h := swapRange_calls (b2 := b2) (b6 := b6) (xs := ys) (LL := fun y => Blk b4 152 [.func (.func 57) #[] #[.pointer (some ⟨b2, 0, none⟩), .pointer (some ⟨b6, 0, none⟩)], .func (.func 83) #[] #[.slice (some ⟨g, 0, none⟩) n n, typeHandle Try.prog 3]] :: LL y) (a := m - i) (b := m + j - i) (m := i) (fun x y => .there _ (UU x y)) H (by omega) (by omega) (by omega); rw [show ((m - i : Nat) : Int) = (m : Int) - i by omega, show ((m + j - i : Nat) : Int) = (m : Int) + j - i by omega] at h; exact h) ?_
      rintro _ w5 ⟨rfl, Hc⟩
      have H6 := Hc
      refine wl_nil ?_
      refine wc_region ?_
      refine wl_v rfl rfl rfl (v_move rfl) ?_
      refine wl_v rfl rfl rfl (v_move rfl) ?_
      refine wl_v rfl rfl rfl (v_subi rfl rfl (by omega)) ?_
      refine wl_v rfl rfl rfl (v_assign rfl) ?_
      refine wl_nil ?_
      first
        | exact ⟨(i - j, j, swR ys (m - i) m j), by rw [Int.natCast_sub (by omega)]; exact (sc rfl (sc rfl (sc rfl (sc rfl (sn _))))), ⟨⟨by dsimp only; omega, h2, by dsimp only; omega, h4, by rw [swR_len]; exact h5, fun zs h => h6 zs (rotA (by omega) h3 (by omega) (by dsimp only at h; rwa [show m - (i - j) = m - i + j by omega] at h))⟩, H6⟩, by dsimp only; omega⟩
        | exact ⟨(i, j - i, swR ys (m - i) (m + j - i) i), by rw [Int.natCast_sub (by omega)]; exact (sc rfl (sc rfl (sc rfl (sc rfl (sn _))))), ⟨⟨h1, by dsimp only; omega, h3, by dsimp only; omega, by rw [swR_len]; exact h5, fun zs h => h6 zs (rotB (by omega) h3 (by omega) h)⟩, H6⟩, by dsimp only; omega⟩
  · have c0p := of_nd_f c0
    refine wc_exit ?_
    refine wc_region ?_
    refine wl_v rfl rfl rfl (v_loadN agg152 rfl rfl (H.ats (by repeat constructor))) ?_
    refine wl_v rfl rfl rfl (v_move rfl) ?_
    refine wl_v rfl rfl rfl (v_move rfl) ?_
    refine wl_v rfl rfl rfl (v_subi rfl rfl (by omega)) ?_
    refine wl_v rfl rfl rfl (v_move rfl) ?_
    refine wl_v rfl rfl rfl (v_move rfl) ?_
    refine wl_call en91 rfl rfl (by have h := swapRange_calls (b2 := b2) (b6 := b6) (xs := ys) (LL := fun y => Blk b4 152 [.func (.func 57) #[] #[.pointer (some ⟨b2, 0, none⟩), .pointer (some ⟨b6, 0, none⟩)], .func (.func 83) #[] #[.slice (some ⟨g, 0, none⟩) n n, typeHandle Try.prog 3]] :: LL y) (a := m - i) (b := m) (m := i) (fun x y => .there _ (UU x y)) H (by omega) (by omega) (by omega); rw [show ((m - i : Nat) : Int) = (m : Int) - i by omega] at h; exact h) ?_
    rintro _ w7 ⟨rfl, Hc⟩
    have H8 := Hc
    refine wl_nil ?_
    exact ⟨_, res0 rfl, _, rfl, h6 _ (by rw [show j = i by omega]; exact rotE h3 (by omega)), H8.tail⟩
end Go.Proofs.Ytkpehkadammppaa.Rot

/-! Shifts. -/
namespace Go.Proofs.YtkpehkadammppaaFx
open Go Go.RowKit
/-- Several ways meet. -/
theorem wc_cut {P : Program} {n : Nat} {Q : Post} {l : Fr} {w : World} {σ : Type} {x y : Code} (fr : σ → Fr) (inv : σ → World → Prop) (h : wc P n x (thenQ (fun l' w' => ∃ s, Sub (fr s) l' ∧ inv s w') Q) l w) (k : ∀ s w, inv s w → wc P n y Q (fr s) w) : wc P n (.seq x y) Q l w :=
  wc_mid _ h fun _ _ ⟨s, hs, hi⟩ => wc_sub hs (k s _ hi)
section
variable {P : Program} {n : Nat} {l : Fr} {w : World} {x y : Operand} {ty t t2 : TypeId} {pos : String} {af : Array Edge} {gd : Option (Nat × Bool)} {dst : Option Tmp} {i j : Int} {k yk : IntKind}
theorem v_shr (hx : ev l x = some (.int k i)) (hy : ev l y = some (.int yk j)) (h0 : 0 ≤ j) (h1 : j ≤ k.bits) : Vs P n l ⟨dst, .binOp .shr t x y t2, ty, pos, af, gd⟩ w (.int k (i / 2 ^ j.toNat)) := fun a ha => by
  simp [execOp, ha.eval hx, ha.eval hy, eqGuard_shr, binOp_shr, shift_shr k yk i j h0 h1]
theorem v_shl (hx : ev l x = some (.int k i)) (hy : ev l y = some (.int yk j)) (h0 : 0 ≤ j) (h1 : j ≤ k.bits) : Vs P n l ⟨dst, .binOp .shl t x y t2, ty, pos, af, gd⟩ w (.int k (k.wrap (i * 2 ^ j.toNat))) := fun a ha => by
  simp [execOp, ha.eval hx, ha.eval hy, eqGuard_shl, binOp_shl, shift_shl k yk i j h0 h1]
theorem wrap_u {i : Int} (h : 0 ≤ i ∧ i ≤ 9223372036854775807) : IntKind.u64.wrap i = i := by
  have e1 : (2 ^ IntKind.u64.bits : Int) = 18446744073709551616 := rfl
  have e3 : IntKind.u64.signed = false := rfl
  unfold IntKind.wrap
  simp only [e1, e3, Bool.false_and, Bool.false_eq_true, if_false]
  omega
theorem v_toU (hs : P.underlying t = some (.int .i64)) (hd : P.underlying t2 = some (.int .u64)) (hx : ev l x = some (.int .i64 i)) (h : 0 ≤ i ∧ i ≤ 9223372036854775807) : Vs P n l ⟨dst, .convert t t2 x, ty, pos, af, gd⟩ w (.int .u64 i) := by
  have h1 := v_conv (P := P) (n := n) (w := w) (ty := ty) (pos := pos) (af := af) (gd := gd) (dst := dst) hs hd hx
  rwa [wrap_u h] at h1
theorem v_toI (hs : P.underlying t = some (.int .u64)) (hd : P.underlying t2 = some (.int .i64)) (hx : ev l x = some (.int .u64 i)) (h : 0 ≤ i ∧ i ≤ 9223372036854775807) : Vs P n l ⟨dst, .convert t t2 x, ty, pos, af, gd⟩ w (.int .i64 i) := by
  have h1 := v_conv (P := P) (n := n) (w := w) (ty := ty) (pos := pos) (af := af) (gd := gd) (dst := dst) hs hd hx
  rwa [IntWalk.i64_in _ (by omega)] at h1
theorem v_half (hx : ev l x = some (.int .u64 i)) (hy : ev l y = some (.int yk 1)) : Vs P n l ⟨dst, .binOp .shr t x y t2, ty, pos, af, gd⟩ w (.int .u64 (i / 2)) := v_shr hx hy (by decide) (by decide)
end
end Go.Proofs.YtkpehkadammppaaFx

/-! Merging two sorted stretches of the order. -/
namespace Go.Proofs.Ytkpehkadammppaa.Merge
open Go Go.RowKit Go.Proofs.YtkpehkadammppaaFx Go.Proofs.Ytkpehkadammppaa.SwapW Go.Proofs.Ytkpehkadammppaa.Less Go.Proofs.Ytkpehkadammppaa.Rot
theorem agg152 : Agg Try.prog 152 2 := agg_of Try.underlying152 (by kernel_rfl)
theorem en57 : Enters Try.prog 57 := enters Try.func57 (by kernel_rfl) rfl
theorem en89 : Enters Try.prog 89 := enters Try.func89 (by kernel_rfl) rfl
theorem en90 : Enters Try.prog 90 := enters Try.func90 (by kernel_rfl) rfl
theorem fa152_0 : FieldAt Try.prog 152 0 0 := field_at (sz := 0) Try.underlying152 rfl (by kernel_rfl) rfl
theorem fa152_1 : FieldAt Try.prog 152 1 1 := field_at (sz := 0) Try.underlying152 rfl (by kernel_rfl) rfl
theorem one118 : One Try.prog 118 := one_of Try.underlying118 rfl (by kernel_rfl)
theorem one135 : One Try.prog 135 := one_of Try.underlying135 rfl (by kernel_rfl)

/-- symMerge does what it should on stretches of up to k places. -/
def SymOk (R : Option Addr) (cr b2 b6 g n : Nat) (rows : List (List Int)) (k : Nat) : Prop := ∀ (w0 w : World) (xs : List Int) (LL : List Int → List Ch) (a m b : Nat) (hR : Rd (kInt .i64).sl w0 R rows) (UU : ∀ x y, Upd (LL x) (Row (fInt .i64) 3 (.slice (some ⟨g, 0, none⟩) n n) x) (Row (fInt .i64) 3 (.slice (some ⟨g, 0, none⟩) n n) y) (LL y)) (U6 : ∀ x, Upd (LL x) (Blk b6 39 [.slice (some ⟨g, 0, none⟩) n n]) (Blk b6 39 [.slice (some ⟨g, 0, none⟩) n n]) (LL x)) (U2 : ∀ x, Upd (LL x) (Blk b2 23 [.slice R rows.length cr]) (Blk b2 23 [.slice R rows.length cr]) (LL x))
    (HH : Holds w0 (LL xs) w) (hn : n = xs.length) (hx : xs.length ≤ 1099511627776) (hrg : ∀ x ∈ xs, 0 ≤ x ∧ x < rows.length) (ham : a < m) (hmb : m < b) (hbl : b ≤ xs.length) (ht : Two (lnR rows) xs a m b) (hk : b - a ≤ k), Calls Try.prog 89 #[.agg #[.func (.func 57) #[] #[.pointer (some ⟨b2, 0, none⟩), .pointer (some ⟨b6, 0, none⟩)], .func (.func 83) #[] #[.slice (some ⟨g, 0, none⟩) n n, typeHandle Try.prog 3]], .int .i64 a, .int .i64 m, .int .i64 b] w fun e w' => ∃ v, e = .returned v ∧ ∃ ys, v = .tuple #[] ∧ Srtd (lnR rows) xs ys a b ∧ Holds w0 (LL ys) w'

set_option maxHeartbeats 4000000 in
set_option maxRecDepth 100000 in
theorem merge_step {k a m b : Nat} {R : Option Addr} {cr b2 b6 g n : Nat} {w0 w : World} {xs : List Int} {rows : List (List Int)} {LL : List Int → List Ch} (hR : Rd (kInt .i64).sl w0 R rows) (UU : ∀ x y, Upd (LL x) (Row (fInt .i64) 3 (.slice (some ⟨g, 0, none⟩) n n) x) (Row (fInt .i64) 3 (.slice (some ⟨g, 0, none⟩) n n) y) (LL y)) (U6 : ∀ x, Upd (LL x) (Blk b6 39 [.slice (some ⟨g, 0, none⟩) n n]) (Blk b6 39 [.slice (some ⟨g, 0, none⟩) n n]) (LL x)) (U2 : ∀ x, Upd (LL x) (Blk b2 23 [.slice R rows.length cr]) (Blk b2 23 [.slice R rows.length cr]) (LL x))
    (HH : Holds w0 (LL xs) w) (hn : n = xs.length) (hx : xs.length ≤ 1099511627776) (hrg : ∀ x ∈ xs, 0 ≤ x ∧ x < rows.length) (ham : a < m) (hmb : m < b) (hbl : b ≤ xs.length) (ht : Two (lnR rows) xs a m b) (ih : SymOk R cr b2 b6 g n rows k) (hk : b - a ≤ k + 1) :
    Calls Try.prog 89 #[.agg #[.func (.func 57) #[] #[.pointer (some ⟨b2, 0, none⟩), .pointer (some ⟨b6, 0, none⟩)], .func (.func 83) #[] #[.slice (some ⟨g, 0, none⟩) n n, typeHandle Try.prog 3]], .int .i64 a, .int .i64 m, .int .i64 b] w fun e w' => ∃ v, e = .returned v ∧ ∃ ys, v = .tuple #[] ∧ Srtd (lnR rows) xs ys a b ∧ Holds w0 (LL ys) w' := by
  refine calls_of Try.func89 rfl Try.ntmps89 rfl ?_
  have H := HH
  refine wc_seq ?_
  refine wc_region ?_
  refine wl_box (cs := [_, _]) H rfl rfl rfl ?_
  intro b4 w1 hb4 H2
  refine wl_nil ?_
  refine wc_seq ?_
  refine wc_seq ?_
  refine wc_region ?_
  refine wl_v rfl rfl rfl (v_move rfl) ?_
  refine wl_v rfl rfl rfl (v_move rfl) ?_
  refine wl_v rfl rfl rfl (v_subi rfl rfl (by omega)) ?_
  refine wl_v rfl rfl rfl (v_eql rfl rfl) ?_
  refine wl_nil ?_
  refine wc_cond rfl (fun c0 => ?_) (fun c0 => ?_)
  · have c0p := of_decide_eq_true c0
    obtain rfl : m = a + 1 := by omega
    refine wc_seq ?_
    refine wc_region ?_
    refine wl_v rfl rfl rfl (v_move rfl) ?_
    refine wl_v rfl rfl rfl (v_assign rfl) ?_
    refine wl_nil ?_
    refine wc_seq ?_
    refine wc_region ?_
    refine wl_v rfl rfl rfl (v_move rfl) ?_
    refine wl_v rfl rfl rfl (v_assign rfl) ?_
    refine wl_nil ?_
    refine wc_seq ?_
    refine wc_block ?_
    refine wc_loop (σ := Nat × Nat) (fun s => [(1, .int .i64 a), (2, .int .i64 (a + 1 : Nat)), (3, .int .i64 b), (4, .pointer (some ⟨b4, 0, none⟩)), (8, .int .i64 s.1), (9, .int .i64 s.2)]) (fun s W => (a + 1 ≤ s.1 ∧ s.1 ≤ s.2 ∧ s.2 ≤ b ∧ (∀ q, a + 1 ≤ q → q < s.1 → lnR rows (at0 xs a) < lnR rows (at0 xs q)) ∧ (∀ q, s.2 ≤ q → q < b → ¬ lnR rows (at0 xs a) < lnR rows (at0 xs q))) ∧ Holds w0 (Blk b4 152 [.func (.func 57) #[] #[.pointer (some ⟨b2, 0, none⟩), .pointer (some ⟨b6, 0, none⟩)], .func (.func 83) #[] #[.slice (some ⟨g, 0, none⟩) n n, typeHandle Try.prog 3]] :: LL xs) W) (fun s => s.2 - s.1) (a + 1, b) (sc rfl (sc rfl (sc rfl (sc rfl (sc rfl (sc rfl (sn _))))))) ⟨⟨Nat.le_refl _, Nat.le_of_lt hmb, Nat.le_refl _, fun q e1 e2 => absurd e2 (by dsimp only; omega), fun q e1 e2 => absurd e2 (by dsimp only at e1; omega)⟩, H2⟩ ?_
    rintro ⟨i, j⟩ W0 ⟨⟨h1, h2, h3, h4, h5⟩, H⟩
    dsimp only at h1 h2 h3 h4 h5 H ⊢
    refine wc_seq ?_
    refine wc_seq ?_
    refine wc_region ?_
    refine wl_v rfl rfl rfl (v_move rfl) ?_
    refine wl_v rfl rfl rfl (v_move rfl) ?_
    refine wl_v rfl rfl rfl (v_lss rfl rfl) ?_
    refine wl_nil ?_
    refine wc_cond rfl (fun c1 => ?_) (fun c1 => ?_)
    · have c1p := of_decide_eq_true c1
      obtain ⟨h, hh⟩ : ∃ h : Nat, h = (i + j) / 2 := ⟨_, rfl⟩
      have eh : ((i : Int) + (j : Int)) / 2 = ((h : Nat) : Int) := by omega
      refine wc_skip ?_
      refine wc_block ?_
      refine wc_seq ?_
      refine wc_region ?_
      refine wl_v rfl rfl rfl (v_move rfl) ?_
      refine wl_v rfl rfl rfl (v_move rfl) ?_
      refine wl_v rfl rfl rfl (v_addi rfl rfl (by omega)) ?_
      refine wl_v rfl rfl rfl (v_toU Try.underlying3 Try.underlying142 rfl (by omega)) ?_
      refine wl_v rfl rfl rfl (v_half rfl rfl) ?_
      refine wl_v rfl rfl rfl (v_toI Try.underlying142 Try.underlying3 rfl (by omega)) ?_
      rw [eh]
      refine wl_v rfl rfl rfl (v_assign rfl) ?_
      refine wl_nil ?_
      refine wc_seq ?_
      refine wc_region ?_
      refine wl_v rfl rfl rfl (v_fb (o2 := 0) fa152_0 rfl rfl) ?_
      refine wl_v rfl rfl rfl (v_load one118 rfl (H.at (by repeat constructor) rfl)) ?_
      refine wl_v rfl rfl rfl (v_move rfl) ?_
      refine wl_v rfl rfl rfl (v_move rfl) ?_
      refine wl_callv (first := []) (captured := [.pointer (some ⟨b2, 0, none⟩), .pointer (some ⟨b6, 0, none⟩)]) en57 rfl rfl rfl (by have hq := less_calls (A := some ⟨g, 0, none⟩) (n := n) (c := n) (xs := xs) (i := h) (k := a) (fun u v hu => H.at (.there _ (U2 xs)) hu) (fun u v hu => H.at (.there _ (U6 xs)) hu) (H.rrd (f := fInt .i64) (e := 3) (.there _ (UU xs xs))) (hR.below H.old) (by omega) (by omega) (by omega) hrg; exact hq) ?_
      rintro _ w6 ⟨rfl, Hc⟩
      have H7 := H.call0 Hc
      refine wl_nil ?_
      refine wc_cond rfl (fun c2 => ?_) (fun c2 => ?_)
      · have c2p := of_decide_eq_true c2
        have hlt : lnR rows (at0 xs a) < lnR rows (at0 xs h) := by show (rows.getD (xs.getD (a) 0).toNat []).length < (rows.getD (xs.getD (h) 0).toNat []).length; omega
        refine wc_region ?_
        refine wl_v rfl rfl rfl (v_move rfl) ?_
        refine wl_v rfl rfl rfl (v_addi rfl rfl (by omega)) ?_
        refine wl_v rfl rfl rfl (v_assign rfl) ?_
        refine wl_nil ?_
        first
          | exact ⟨(h + 1, j), (sc rfl (sc rfl (sc rfl (sc rfl (sc rfl (sc rfl (sn _))))))), ⟨⟨by dsimp only; omega, by dsimp only; omega, h3, fun q e1 e2 => by (have e3 := ht.r.ge (p := q) (q := h) e1 (by dsimp only at e2; omega) (by omega)); exact Nat.lt_of_lt_of_le hlt e3, h5⟩, H7⟩, by dsimp only; omega⟩
          | exact ⟨(i, h), (sc rfl (sc rfl (sc rfl (sc rfl (sc rfl (sc rfl (sn _))))))), ⟨⟨h1, by dsimp only; omega, by dsimp only; omega, h4, fun q e1 e2 => by (have e3 := ht.r.ge (p := h) (q := q) (by omega) e1 e2); omega⟩, H7⟩, by dsimp only; omega⟩
      · have c2p := of_decide_eq_false c2
        have hlt : ¬ lnR rows (at0 xs a) < lnR rows (at0 xs h) := by show ¬ (rows.getD (xs.getD (a) 0).toNat []).length < (rows.getD (xs.getD (h) 0).toNat []).length; omega
        refine wc_region ?_
        refine wl_v rfl rfl rfl (v_move rfl) ?_
        refine wl_v rfl rfl rfl (v_assign rfl) ?_
        refine wl_nil ?_
        first
          | exact ⟨(h + 1, j), (sc rfl (sc rfl (sc rfl (sc rfl (sc rfl (sc rfl (sn _))))))), ⟨⟨by dsimp only; omega, by dsimp only; omega, h3, fun q e1 e2 => by (have e3 := ht.r.ge (p := q) (q := h) e1 (by dsimp only at e2; omega) (by omega)); exact Nat.lt_of_lt_of_le hlt e3, h5⟩, H7⟩, by dsimp only; omega⟩
          | exact ⟨(i, h), (sc rfl (sc rfl (sc rfl (sc rfl (sc rfl (sc rfl (sn _))))))), ⟨⟨h1, by dsimp only; omega, by dsimp only; omega, h4, fun q e1 e2 => by (have e3 := ht.r.ge (p := h) (q := q) (by omega) e1 e2); omega⟩, H7⟩, by dsimp only; omega⟩
    · have c1p := of_decide_eq_false c1
      refine wc_exit ?_
      refine wc_seq ?_
      refine wc_seq ?_
      refine wc_region ?_
      refine wl_v rfl rfl rfl (v_move rfl) ?_
      refine wl_v rfl rfl rfl (v_assign rfl) ?_
      refine wl_nil ?_
      refine wc_block ?_
      refine wc_loop (σ := Nat) (fun s => [(1, .int .i64 a), (2, .int .i64 (a + 1 : Nat)), (3, .int .i64 b), (4, .pointer (some ⟨b4, 0, none⟩)), (8, .int .i64 i), (11, .int .i64 (a + s : Nat))]) (fun s W => a + s + 1 ≤ i ∧ Holds w0 (Blk b4 152 [.func (.func 57) #[] #[.pointer (some ⟨b2, 0, none⟩), .pointer (some ⟨b6, 0, none⟩)], .func (.func 83) #[] #[.slice (some ⟨g, 0, none⟩) n n, typeHandle Try.prog 3]] :: LL (mvU xs a s)) W) (fun s => i - (a + s)) 0 (sc rfl (sc rfl (sc rfl (sc rfl (sc rfl (sc rfl (sn _))))))) ⟨by omega, H⟩ ?_
      rintro s W1 ⟨hs, H⟩
      refine wc_seq ?_
      refine wc_seq ?_
      refine wc_region ?_
      refine wl_v rfl rfl rfl (v_move rfl) ?_
      refine wl_v rfl rfl rfl (v_move rfl) ?_
      refine wl_v rfl rfl rfl (v_subi rfl rfl (by omega)) ?_
      refine wl_v rfl rfl rfl (v_lss rfl rfl) ?_
      refine wl_nil ?_
      refine wc_cond rfl (fun c3 => ?_) (fun c3 => ?_)
      · have c3p := of_decide_eq_true c3
        have hml := mvU_len xs a s
        refine wc_skip ?_
        refine wc_seq ?_
        refine wc_block ?_
        refine wc_region ?_
        refine wl_v rfl rfl rfl (v_fb (o2 := 1) fa152_1 rfl rfl) ?_
        refine wl_v rfl rfl rfl (v_load one135 rfl (H.at (by repeat constructor) rfl)) ?_
        refine wl_v rfl rfl rfl (v_move rfl) ?_
        refine wl_v rfl rfl rfl (v_move rfl) ?_
        refine wl_v rfl rfl rfl (v_addi rfl rfl (by omega)) ?_
        obtain ⟨ws8, hsw, H8⟩ := swap_run (g := g) (n := n) (i := a + s) (j := a + s + 1) (xs := mvU xs a s) H (.there _ (UU _ _)) (by omega) (by omega)
        refine wl_extv (first := []) (vs := [.int .i64 ((a + s : Nat) : Int), .int .i64 ((a + s + 1 : Nat) : Int)]) (captured := [.slice (some ⟨g, 0, none⟩) n n, typeHandle Try.prog 3]) rfl (by rfl) rfl hsw ?_
        refine wl_nil ?_
        refine wc_region ?_
        refine wl_v rfl rfl rfl (v_move rfl) ?_
        refine wl_v rfl rfl rfl (v_addi rfl rfl (by omega)) ?_
        refine wl_v rfl rfl rfl (v_assign rfl) ?_
        refine wl_nil ?_
        exact ⟨s + 1, (sc rfl (sc rfl (sc rfl (sc rfl (sc rfl (sc rfl (sn _))))))), ⟨by omega, H8⟩, by omega⟩
      · have c3p := of_decide_eq_false c3
        refine wc_exit ?_
        refine wc_ret ?_
        first
          | exact ⟨_, res0 rfl, _, rfl, baseU ht (k := s) (by omega) hbl (fun q e1 e2 => h4 q e1 (by omega)) (fun q e1 e2 => h5 q (by omega) e2), H.tail⟩
          | exact ⟨_, res0 rfl, _, rfl, baseD ht (k := s) (by omega) (by omega) (fun q e1 e2 => h5 q (by omega) e2) (fun q e1 e2 => h4 q e1 (by omega)), H.tail⟩
          | exact ⟨_, res0 rfl, _, rfl, merged hfo hrot (by omega) (by omega) hX hs1 hs2, H.tail⟩
          | exact ⟨_, res0 rfl, _, rfl, merged hfo hrot (by omega) (by omega) hX hs1 (ht3.triv (by omega)), H.tail⟩
  · have c0p := of_decide_eq_false c0
    refine wc_skip ?_
    refine wc_seq ?_
    refine wc_seq ?_
    refine wc_region ?_
    refine wl_v rfl rfl rfl (v_move rfl) ?_
    refine wl_v rfl rfl rfl (v_move rfl) ?_
    refine wl_v rfl rfl rfl (v_subi rfl rfl (by omega)) ?_
    refine wl_v rfl rfl rfl (v_eql rfl rfl) ?_
    refine wl_nil ?_
    refine wc_cond rfl (fun c4 => ?_) (fun c4 => ?_)
    · have c4p := of_decide_eq_true c4
      obtain rfl : b = m + 1 := by omega
      refine wc_seq ?_
      refine wc_region ?_
      refine wl_v rfl rfl rfl (v_move rfl) ?_
      refine wl_v rfl rfl rfl (v_assign rfl) ?_
      refine wl_nil ?_
      refine wc_seq ?_
      refine wc_region ?_
      refine wl_v rfl rfl rfl (v_move rfl) ?_
      refine wl_v rfl rfl rfl (v_assign rfl) ?_
      refine wl_nil ?_
      refine wc_seq ?_
      refine wc_block ?_
      refine wc_loop (σ := Nat × Nat) (fun s => [(1, .int .i64 a), (2, .int .i64 m), (3, .int .i64 (m + 1 : Nat)), (4, .pointer (some ⟨b4, 0, none⟩)), (12, .int .i64 s.1), (13, .int .i64 s.2)]) (fun s W => (a ≤ s.1 ∧ s.1 ≤ s.2 ∧ s.2 ≤ m ∧ (∀ q, a ≤ q → q < s.1 → ¬ lnR rows (at0 xs q) < lnR rows (at0 xs m)) ∧ (∀ q, s.2 ≤ q → q < m → lnR rows (at0 xs q) < lnR rows (at0 xs m))) ∧ Holds w0 (Blk b4 152 [.func (.func 57) #[] #[.pointer (some ⟨b2, 0, none⟩), .pointer (some ⟨b6, 0, none⟩)], .func (.func 83) #[] #[.slice (some ⟨g, 0, none⟩) n n, typeHandle Try.prog 3]] :: LL xs) W) (fun s => s.2 - s.1) (a, m) (sc rfl (sc rfl (sc rfl (sc rfl (sc rfl (sc rfl (sn _))))))) ⟨⟨Nat.le_refl _, Nat.le_of_lt ham, Nat.le_refl _, fun q e1 e2 => absurd e2 (by dsimp only; omega), fun q e1 e2 => absurd e2 (by dsimp only at e1; omega)⟩, H2⟩ ?_
      rintro ⟨i, j⟩ W2 ⟨⟨h1, h2, h3, h4, h5⟩, H⟩
      dsimp only at h1 h2 h3 h4 h5 H ⊢
      refine wc_seq ?_
      refine wc_seq ?_
      refine wc_region ?_
      refine wl_v rfl rfl rfl (v_move rfl) ?_
      refine wl_v rfl rfl rfl (v_move rfl) ?_
      refine wl_v rfl rfl rfl (v_lss rfl rfl) ?_
      refine wl_nil ?_
      refine wc_cond rfl (fun c5 => ?_) (fun c5 => ?_)
      · have c5p := of_decide_eq_true c5
        obtain ⟨h, hh⟩ : ∃ h : Nat, h = (i + j) / 2 := ⟨_, rfl⟩
        have eh : ((i : Int) + (j : Int)) / 2 = ((h : Nat) : Int) := by omega
        refine wc_skip ?_
        refine wc_block ?_
        refine wc_seq ?_
        refine wc_region ?_
        refine wl_v rfl rfl rfl (v_move rfl) ?_
        refine wl_v rfl rfl rfl (v_move rfl) ?_
        refine wl_v rfl rfl rfl (v_addi rfl rfl (by omega)) ?_
        refine wl_v rfl rfl rfl (v_toU Try.underlying3 Try.underlying142 rfl (by omega)) ?_
        refine wl_v rfl rfl rfl (v_half rfl rfl) ?_
        refine wl_v rfl rfl rfl (v_toI Try.underlying142 Try.underlying3 rfl (by omega)) ?_
        rw [eh]
        refine wl_v rfl rfl rfl (v_assign rfl) ?_
        refine wl_nil ?_
        refine wc_seq ?_
        refine wc_region ?_
        refine wl_v rfl rfl rfl (v_fb (o2 := 0) fa152_0 rfl rfl) ?_
        refine wl_v rfl rfl rfl (v_load one118 rfl (H.at (by repeat constructor) rfl)) ?_
        refine wl_v rfl rfl rfl (v_move rfl) ?_
        refine wl_v rfl rfl rfl (v_move rfl) ?_
        refine wl_callv (first := []) (captured := [.pointer (some ⟨b2, 0, none⟩), .pointer (some ⟨b6, 0, none⟩)]) en57 rfl rfl rfl (by have hq := less_calls (A := some ⟨g, 0, none⟩) (n := n) (c := n) (xs := xs) (i := m) (k := h) (fun u v hu => H.at (.there _ (U2 xs)) hu) (fun u v hu => H.at (.there _ (U6 xs)) hu) (H.rrd (f := fInt .i64) (e := 3) (.there _ (UU xs xs))) (hR.below H.old) (by omega) (by omega) (by omega) hrg; exact hq) ?_
        rintro _ w12 ⟨rfl, Hc⟩
        have H13 := H.call0 Hc
        refine wl_v rfl rfl rfl (v_not rfl) ?_
        refine wl_nil ?_
        refine wc_cond rfl (fun c6 => ?_) (fun c6 => ?_)
        · have c6p := of_nd_t c6
          have hlt : ¬ lnR rows (at0 xs h) < lnR rows (at0 xs m) := by show ¬ (rows.getD (xs.getD (h) 0).toNat []).length < (rows.getD (xs.getD (m) 0).toNat []).length; omega
          refine wc_region ?_
          refine wl_v rfl rfl rfl (v_move rfl) ?_
          refine wl_v rfl rfl rfl (v_addi rfl rfl (by omega)) ?_
          refine wl_v rfl rfl rfl (v_assign rfl) ?_
          refine wl_nil ?_
          first
            | exact ⟨(h + 1, j), (sc rfl (sc rfl (sc rfl (sc rfl (sc rfl (sc rfl (sn _))))))), ⟨⟨by dsimp only; omega, by dsimp only; omega, h3, fun q e1 e2 => by (have e3 := ht.l.ge (p := q) (q := h) e1 (by dsimp only at e2; omega) (by omega)); omega, h5⟩, H13⟩, by dsimp only; omega⟩
            | exact ⟨(i, h), (sc rfl (sc rfl (sc rfl (sc rfl (sc rfl (sc rfl (sn _))))))), ⟨⟨h1, by dsimp only; omega, by dsimp only; omega, h4, fun q e1 e2 => by (have e3 := ht.l.ge (p := h) (q := q) (by omega) e1 e2); omega⟩, H13⟩, by dsimp only; omega⟩
        · have c6p := of_nd_f c6
          have hlt : lnR rows (at0 xs h) < lnR rows (at0 xs m) := by show (rows.getD (xs.getD (h) 0).toNat []).length < (rows.getD (xs.getD (m) 0).toNat []).length; omega
          refine wc_region ?_
          refine wl_v rfl rfl rfl (v_move rfl) ?_
          refine wl_v rfl rfl rfl (v_assign rfl) ?_
          refine wl_nil ?_
          first
            | exact ⟨(h + 1, j), (sc rfl (sc rfl (sc rfl (sc rfl (sc rfl (sc rfl (sn _))))))), ⟨⟨by dsimp only; omega, by dsimp only; omega, h3, fun q e1 e2 => by (have e3 := ht.l.ge (p := q) (q := h) e1 (by dsimp only at e2; omega) (by omega)); omega, h5⟩, H13⟩, by dsimp only; omega⟩
            | exact ⟨(i, h), (sc rfl (sc rfl (sc rfl (sc rfl (sc rfl (sc rfl (sn _))))))), ⟨⟨h1, by dsimp only; omega, by dsimp only; omega, h4, fun q e1 e2 => by (have e3 := ht.l.ge (p := h) (q := q) (by omega) e1 e2); omega⟩, H13⟩, by dsimp only; omega⟩
      · have c5p := of_decide_eq_false c5
        refine wc_exit ?_
        refine wc_seq ?_
        refine wc_seq ?_
        refine wc_region ?_
        refine wl_v rfl rfl rfl (v_move rfl) ?_
        refine wl_v rfl rfl rfl (v_assign rfl) ?_
        refine wl_nil ?_
        refine wc_block ?_
        refine wc_loop (σ := Nat) (fun s => [(1, .int .i64 a), (2, .int .i64 m), (3, .int .i64 (m + 1 : Nat)), (4, .pointer (some ⟨b4, 0, none⟩)), (12, .int .i64 i), (15, .int .i64 (m - s : Nat))]) (fun s W => i + s ≤ m ∧ Holds w0 (Blk b4 152 [.func (.func 57) #[] #[.pointer (some ⟨b2, 0, none⟩), .pointer (some ⟨b6, 0, none⟩)], .func (.func 83) #[] #[.slice (some ⟨g, 0, none⟩) n n, typeHandle Try.prog 3]] :: LL (mvD xs m s)) W) (fun s => m - s) 0 (sc rfl (sc rfl (sc rfl (sc rfl (sc rfl (sc rfl (sn _))))))) ⟨by omega, H⟩ ?_
        rintro s W3 ⟨hs, H⟩
        refine wc_seq ?_
        refine wc_seq ?_
        refine wc_region ?_
        refine wl_v rfl rfl rfl (v_move rfl) ?_
        refine wl_v rfl rfl rfl (v_move rfl) ?_
        refine wl_v rfl rfl rfl (v_gtr rfl rfl) ?_
        refine wl_nil ?_
        refine wc_cond rfl (fun c7 => ?_) (fun c7 => ?_)
        · have c7p := of_decide_eq_true c7
          have hml := mvD_len xs m s
          have hj1 : ((m - s - 1 : Nat) : Int) = ((m - s : Nat) : Int) - 1 := by omega
          refine wc_skip ?_
          refine wc_seq ?_
          refine wc_block ?_
          refine wc_region ?_
          refine wl_v rfl rfl rfl (v_fb (o2 := 1) fa152_1 rfl rfl) ?_
          refine wl_v rfl rfl rfl (v_load one135 rfl (H.at (by repeat constructor) rfl)) ?_
          refine wl_v rfl rfl rfl (v_move rfl) ?_
          refine wl_v rfl rfl rfl (v_move rfl) ?_
          refine wl_v rfl rfl rfl (v_subi rfl rfl (by omega)) ?_
          obtain ⟨ws14, hsw, H14⟩ := swap_run (g := g) (n := n) (i := m - s) (j := m - s - 1) (xs := mvD xs m s) H (.there _ (UU _ _)) (by omega) (by omega)
          refine wl_extv (first := []) (vs := [.int .i64 ((m - s : Nat) : Int), .int .i64 ((m - s - 1 : Nat) : Int)]) (captured := [.slice (some ⟨g, 0, none⟩) n n, typeHandle Try.prog 3]) rfl (by rw [hj1]; rfl) rfl hsw ?_
          refine wl_nil ?_
          refine wc_region ?_
          refine wl_v rfl rfl rfl (v_move rfl) ?_
          refine wl_v rfl rfl rfl (v_subi rfl rfl (by omega)) ?_
          refine wl_v rfl rfl rfl (v_assign rfl) ?_
          refine wl_nil ?_
          exact ⟨s + 1, by rw [show ((m - (s + 1) : Nat) : Int) = ((m - s : Nat) : Int) - 1 from hj1]; exact (sc rfl (sc rfl (sc rfl (sc rfl (sc rfl (sc rfl (sn _))))))), ⟨by omega, H14⟩, by omega⟩
        · have c7p := of_decide_eq_false c7
          refine wc_exit ?_
          refine wc_ret ?_
          first
            | exact ⟨_, res0 rfl, _, rfl, baseU ht (k := s) (by omega) hbl (fun q e1 e2 => h4 q e1 (by omega)) (fun q e1 e2 => h5 q (by omega) e2), H.tail⟩
            | exact ⟨_, res0 rfl, _, rfl, baseD ht (k := s) (by omega) (by omega) (fun q e1 e2 => h5 q (by omega) e2) (fun q e1 e2 => h4 q e1 (by omega)), H.tail⟩
            | exact ⟨_, res0 rfl, _, rfl, merged hfo hrot (by omega) (by omega) hX hs1 hs2, H.tail⟩
            | exact ⟨_, res0 rfl, _, rfl, merged hfo hrot (by omega) (by omega) hX hs1 (ht3.triv (by omega)), H.tail⟩
    · have c4p := of_decide_eq_false c4
      obtain ⟨d, hd⟩ : ∃ h : Nat, h = (a + b) / 2 := ⟨_, rfl⟩
      have eh : ((a : Int) + (b : Int)) / 2 = ((d : Nat) : Int) := by omega
      refine wc_skip ?_
      refine wc_seq ?_
      refine wc_region ?_
      refine wl_v rfl rfl rfl (v_move rfl) ?_
      refine wl_v rfl rfl rfl (v_move rfl) ?_
      refine wl_v rfl rfl rfl (v_addi rfl rfl (by omega)) ?_
      refine wl_v rfl rfl rfl (v_toU Try.underlying3 Try.underlying142 rfl (by omega)) ?_
      refine wl_v rfl rfl rfl (v_half rfl rfl) ?_
      refine wl_v rfl rfl rfl (v_toI Try.underlying142 Try.underlying3 rfl (by omega)) ?_
      rw [eh]
      refine wl_v rfl rfl rfl (v_assign rfl) ?_
      refine wl_nil ?_
      refine wc_seq ?_
      refine wc_region ?_
      refine wl_v rfl rfl rfl (v_move rfl) ?_
      refine wl_v rfl rfl rfl (v_move rfl) ?_
      refine wl_v rfl rfl rfl (v_addi rfl rfl (by omega)) ?_
      refine wl_v rfl rfl rfl (v_assign rfl) ?_
      refine wl_nil ?_
      refine wc_seq ?_
      refine wc_region ?_
      refine wl_v rfl rfl rfl (v_assign rfl) ?_
      refine wl_v rfl rfl rfl (v_assign rfl) ?_
      refine wl_nil ?_
      refine wc_cut (σ := Nat × Nat) (fun s => [(1, .int .i64 a), (2, .int .i64 m), (3, .int .i64 b), (4, .pointer (some ⟨b4, 0, none⟩)), (16, .int .i64 d), (17, .int .i64 ((d : Int) + m)), (18, .int .i64 s.1), (19, .int .i64 s.2)]) (fun s W => (a ≤ s.1 ∧ s.1 ≤ s.2 ∧ s.2 ≤ m ∧ s.2 ≤ d ∧ d + m - s.1 ≤ b ∧ ((s.1 = a ∨ d + m - s.1 = b) ∨ ¬ lnR rows (at0 xs (s.1 - 1)) < lnR rows (at0 xs (d + m - s.1))) ∧ ((s.2 = m ∨ d + m - s.2 = m) ∨ lnR rows (at0 xs s.2) < lnR rows (at0 xs (d + m - s.2 - 1)))) ∧ Holds w0 (Blk b4 152 [.func (.func 57) #[] #[.pointer (some ⟨b2, 0, none⟩), .pointer (some ⟨b6, 0, none⟩)], .func (.func 83) #[] #[.slice (some ⟨g, 0, none⟩) n n, typeHandle Try.prog 3]] :: LL xs) W) ?_ ?_
      · refine wc_seq ?_
        refine wc_region ?_
        refine wl_v rfl rfl rfl (v_move rfl) ?_
        refine wl_v rfl rfl rfl (v_move rfl) ?_
        refine wl_v rfl rfl rfl (v_gtr rfl rfl) ?_
        refine wl_nil ?_
        refine wc_cond rfl (fun c8 => ?_) (fun c8 => ?_)
        · have c8p := of_decide_eq_true c8
          refine wc_seq ?_
          refine wc_region ?_
          refine wl_v rfl rfl rfl (v_move rfl) ?_
          refine wl_v rfl rfl rfl (v_move rfl) ?_
          refine wl_v rfl rfl rfl (v_subi rfl rfl (by omega)) ?_
          refine wl_v rfl rfl rfl (v_assign rfl) ?_
          refine wl_nil ?_
          refine wc_region ?_
          refine wl_v rfl rfl rfl (v_move rfl) ?_
          refine wl_v rfl rfl rfl (v_assign rfl) ?_
          refine wl_nil ?_
          first
            | exact ⟨(d + m - b, d), by rw [show ((d + m - b : Nat) : Int) = (d : Int) + m - b by omega]; exact (sc rfl (sc rfl (sc rfl (sc rfl (sc rfl (sc rfl (sc rfl (sc rfl (sn _))))))))), ⟨by dsimp only; omega, by dsimp only; omega, by dsimp only; omega, by dsimp only; omega, by dsimp only; omega, .inl (.inr (by dsimp only; omega)), .inl (.inr (by dsimp only; omega))⟩, H2⟩
            | exact ⟨(a, m), (sc rfl (sc rfl (sc rfl (sc rfl (sc rfl (sc rfl (sc rfl (sc rfl (sn _))))))))), ⟨by dsimp only; omega, by dsimp only; omega, by dsimp only; omega, by dsimp only; omega, by dsimp only; omega, .inl (.inl rfl), .inl (.inl rfl)⟩, H2⟩
        · have c8p := of_decide_eq_false c8
          refine wc_seq ?_
          refine wc_region ?_
          refine wl_v rfl rfl rfl (v_move rfl) ?_
          refine wl_v rfl rfl rfl (v_assign rfl) ?_
          refine wl_nil ?_
          refine wc_region ?_
          refine wl_v rfl rfl rfl (v_move rfl) ?_
          refine wl_v rfl rfl rfl (v_assign rfl) ?_
          refine wl_nil ?_
          first
            | exact ⟨(d + m - b, d), by rw [show ((d + m - b : Nat) : Int) = (d : Int) + m - b by omega]; exact (sc rfl (sc rfl (sc rfl (sc rfl (sc rfl (sc rfl (sc rfl (sc rfl (sn _))))))))), ⟨by dsimp only; omega, by dsimp only; omega, by dsimp only; omega, by dsimp only; omega, by dsimp only; omega, .inl (.inr (by dsimp only; omega)), .inl (.inr (by dsimp only; omega))⟩, H2⟩
            | exact ⟨(a, m), (sc rfl (sc rfl (sc rfl (sc rfl (sc rfl (sc rfl (sc rfl (sc rfl (sn _))))))))), ⟨by dsimp only; omega, by dsimp only; omega, by dsimp only; omega, by dsimp only; omega, by dsimp only; omega, .inl (.inl rfl), .inl (.inl rfl)⟩, H2⟩
      · rintro ⟨s0, r0⟩ Wm ⟨⟨g1, g2, g3, g4, g5, g6, g7⟩, H⟩
        dsimp only at g1 g2 g3 g4 g5 g6 g7 H ⊢
        refine wc_seq ?_
        refine wc_region ?_
        refine wl_v rfl rfl rfl (v_move rfl) ?_
        refine wl_v rfl rfl rfl (v_subi rfl rfl (by omega)) ?_
        refine wl_v rfl rfl rfl (v_assign rfl) ?_
        refine wl_nil ?_
        refine wc_seq ?_
        refine wc_block ?_
        refine wc_loop (σ := Nat × Nat) (fun s => [(1, .int .i64 a), (2, .int .i64 m), (3, .int .i64 b), (4, .pointer (some ⟨b4, 0, none⟩)), (16, .int .i64 d), (17, .int .i64 ((d : Int) + m)), (18, .int .i64 s.1), (19, .int .i64 s.2), (20, .int .i64 ((d : Int) + m - 1))]) (fun s W => (a ≤ s.1 ∧ s.1 ≤ s.2 ∧ s.2 ≤ m ∧ s.2 ≤ d ∧ d + m - s.1 ≤ b ∧ ((s.1 = a ∨ d + m - s.1 = b) ∨ ¬ lnR rows (at0 xs (s.1 - 1)) < lnR rows (at0 xs (d + m - s.1))) ∧ ((s.2 = m ∨ d + m - s.2 = m) ∨ lnR rows (at0 xs s.2) < lnR rows (at0 xs (d + m - s.2 - 1)))) ∧ Holds w0 (Blk b4 152 [.func (.func 57) #[] #[.pointer (some ⟨b2, 0, none⟩), .pointer (some ⟨b6, 0, none⟩)], .func (.func 83) #[] #[.slice (some ⟨g, 0, none⟩) n n, typeHandle Try.prog 3]] :: LL xs) W) (fun s => s.2 - s.1) (s0, r0) (sc rfl (sc rfl (sc rfl (sc rfl (sc rfl (sc rfl (sc rfl (sc rfl (sc rfl (sn _)))))))))) ⟨⟨g1, g2, g3, g4, g5, g6, g7⟩, H⟩ ?_
        rintro ⟨st, j⟩ W4 ⟨⟨h1, h2, h3, h4, h5, h6, h7⟩, H⟩
        dsimp only at h1 h2 h3 h4 h5 h6 h7 H ⊢
        refine wc_seq ?_
        refine wc_seq ?_
        refine wc_region ?_
        refine wl_v rfl rfl rfl (v_move rfl) ?_
        refine wl_v rfl rfl rfl (v_move rfl) ?_
        refine wl_v rfl rfl rfl (v_lss rfl rfl) ?_
        refine wl_nil ?_
        refine wc_cond rfl (fun c9 => ?_) (fun c9 => ?_)
        · have c9p := of_decide_eq_true c9
          obtain ⟨h, hh⟩ : ∃ h : Nat, h = (st + j) / 2 := ⟨_, rfl⟩
          have eh : ((st : Int) + (j : Int)) / 2 = ((h : Nat) : Int) := by omega
          refine wc_skip ?_
          refine wc_block ?_
          refine wc_seq ?_
          refine wc_region ?_
          refine wl_v rfl rfl rfl (v_move rfl) ?_
          refine wl_v rfl rfl rfl (v_move rfl) ?_
          refine wl_v rfl rfl rfl (v_addi rfl rfl (by omega)) ?_
          refine wl_v rfl rfl rfl (v_toU Try.underlying3 Try.underlying142 rfl (by omega)) ?_
          refine wl_v rfl rfl rfl (v_half rfl rfl) ?_
          refine wl_v rfl rfl rfl (v_toI Try.underlying142 Try.underlying3 rfl (by omega)) ?_
          rw [eh]
          refine wl_v rfl rfl rfl (v_assign rfl) ?_
          refine wl_nil ?_
          refine wc_seq ?_
          refine wc_region ?_
          refine wl_v rfl rfl rfl (v_fb (o2 := 0) fa152_0 rfl rfl) ?_
          refine wl_v rfl rfl rfl (v_load one118 rfl (H.at (by repeat constructor) rfl)) ?_
          refine wl_v rfl rfl rfl (v_move rfl) ?_
          refine wl_v rfl rfl rfl (v_move rfl) ?_
          refine wl_v rfl rfl rfl (v_subi rfl rfl (by omega)) ?_
          refine wl_v rfl rfl rfl (v_move rfl) ?_
          refine wl_callv (first := []) (captured := [.pointer (some ⟨b2, 0, none⟩), .pointer (some ⟨b6, 0, none⟩)]) en57 rfl rfl rfl (by have hq := less_calls (A := some ⟨g, 0, none⟩) (n := n) (c := n) (xs := xs) (i := d + m - 1 - h) (k := h) (fun u v hu => H.at (.there _ (U2 xs)) hu) (fun u v hu => H.at (.there _ (U6 xs)) hu) (H.rrd (f := fInt .i64) (e := 3) (.there _ (UU xs xs))) (hR.below H.old) (by omega) (by omega) (by omega) hrg; rw [show ((d + m - 1 - h : Nat) : Int) = (d : Int) + m - 1 - h by omega] at hq; exact hq) ?_
          rintro _ w21 ⟨rfl, Hc⟩
          have H22 := H.call0 Hc
          refine wl_v rfl rfl rfl (v_not rfl) ?_
          refine wl_nil ?_
          refine wc_cond rfl (fun c10 => ?_) (fun c10 => ?_)
          · have c10p := of_nd_t c10
            have hlt : ¬ lnR rows (at0 xs h) < lnR rows (at0 xs (d + m - 1 - h)) := by show ¬ (rows.getD (xs.getD (h) 0).toNat []).length < (rows.getD (xs.getD ((d + m - 1 - h)) 0).toNat []).length; omega
            refine wc_region ?_
            refine wl_v rfl rfl rfl (v_move rfl) ?_
            refine wl_v rfl rfl rfl (v_addi rfl rfl (by omega)) ?_
            refine wl_v rfl rfl rfl (v_assign rfl) ?_
            refine wl_nil ?_
            first
              | exact ⟨(h + 1, j), (sc rfl (sc rfl (sc rfl (sc rfl (sc rfl (sc rfl (sc rfl (sc rfl (sc rfl (sn _)))))))))), ⟨⟨by dsimp only; omega, by dsimp only; omega, h3, h4, by dsimp only; omega, .inr (by rw [show h + 1 - 1 = h by omega, show d + m - (h + 1) = d + m - 1 - h by omega]; exact hlt), h7⟩, H22⟩, by dsimp only; omega⟩
              | exact ⟨(st, h), (sc rfl (sc rfl (sc rfl (sc rfl (sc rfl (sc rfl (sc rfl (sc rfl (sc rfl (sn _)))))))))), ⟨⟨h1, by dsimp only; omega, by dsimp only; omega, by dsimp only; omega, h5, h6, .inr (by rw [show d + m - h - 1 = d + m - 1 - h by omega]; exact hlt)⟩, H22⟩, by dsimp only; omega⟩
          · have c10p := of_nd_f c10
            have hlt : lnR rows (at0 xs h) < lnR rows (at0 xs (d + m - 1 - h)) := by show (rows.getD (xs.getD (h) 0).toNat []).length < (rows.getD (xs.getD ((d + m - 1 - h)) 0).toNat []).length; omega
            refine wc_region ?_
            refine wl_v rfl rfl rfl (v_move rfl) ?_
            refine wl_v rfl rfl rfl (v_assign rfl) ?_
            refine wl_nil ?_
            first
              | exact ⟨(h + 1, j), (sc rfl (sc rfl (sc rfl (sc rfl (sc rfl (sc rfl (sc rfl (sc rfl (sc rfl (sn _)))))))))), ⟨⟨by dsimp only; omega, by dsimp only; omega, h3, h4, by dsimp only; omega, .inr (by rw [show h + 1 - 1 = h by omega, show d + m - (h + 1) = d + m - 1 - h by omega]; exact hlt), h7⟩, H22⟩, by dsimp only; omega⟩
              | exact ⟨(st, h), (sc rfl (sc rfl (sc rfl (sc rfl (sc rfl (sc rfl (sc rfl (sc rfl (sc rfl (sn _)))))))))), ⟨⟨h1, by dsimp only; omega, by dsimp only; omega, by dsimp only; omega, h5, h6, .inr (by rw [show d + m - h - 1 = d + m - 1 - h by omega]; exact hlt)⟩, H22⟩, by dsimp only; omega⟩
        · have c9p := of_decide_eq_false c9
          obtain rfl : st = j := by omega
          have hfo : Fnd (lnR rows) xs a m b d st := ⟨hd, h1, h3, by omega, h5, h6, h7⟩
          refine wc_exit ?_
          refine wc_seq ?_
          refine wc_region ?_
          refine wl_v rfl rfl rfl (v_move rfl) ?_
          refine wl_v rfl rfl rfl (v_move rfl) ?_
          refine wl_v rfl rfl rfl (v_subi rfl rfl (by omega)) ?_
          rw [show (d : Int) + m - st = ((d + m - st : Nat) : Int) by omega]
          refine wl_v rfl rfl rfl (v_assign rfl) ?_
          refine wl_nil ?_
          refine wc_cut (σ := List Int) (fun s => [(1, .int .i64 a), (2, .int .i64 m), (3, .int .i64 b), (4, .pointer (some ⟨b4, 0, none⟩)), (16, .int .i64 d), (18, .int .i64 st), (22, .int .i64 (d + m - st : Nat))]) (fun s W => IsRot xs s st m (d + m - st) ∧ Holds w0 (Blk b4 152 [.func (.func 57) #[] #[.pointer (some ⟨b2, 0, none⟩), .pointer (some ⟨b6, 0, none⟩)], .func (.func 83) #[] #[.slice (some ⟨g, 0, none⟩) n n, typeHandle Try.prog 3]] :: LL s) W) ?_ ?_
          · refine wc_seq ?_
            refine wc_region ?_
            refine wl_v rfl rfl rfl (v_move rfl) ?_
            refine wl_v rfl rfl rfl (v_move rfl) ?_
            refine wl_v rfl rfl rfl (v_lss rfl rfl) ?_
            refine wl_v rfl rfl rfl (v_move rfl) ?_
            refine wl_guard rfl rfl rfl (fun g141 => ?_) (fun g141 => ?_)
            · have g141p := of_decide_eq_true g141
              refine wl_v rfl rfl rfl (v_move rfl) ?_
              refine wl_on' rfl rfl g141 ?_
              refine wl_v rfl rfl rfl (v_move rfl) ?_
              refine wl_on' rfl rfl g141 ?_
              refine wl_v rfl rfl rfl (v_lss rfl rfl) ?_
              refine wl_v rfl rfl rfl (v_pick_t rfl g141 rfl) ?_
              refine wl_nil ?_
              refine wc_cond rfl (fun c11 => ?_) (fun c11 => ?_)
              · have c11p := of_decide_eq_true c11
                refine wc_region ?_
                refine wl_v rfl rfl rfl (v_loadN agg152 rfl rfl (H.ats (by repeat constructor))) ?_
                refine wl_v rfl rfl rfl (v_move rfl) ?_
                refine wl_v rfl rfl rfl (v_move rfl) ?_
                refine wl_v rfl rfl rfl (v_move rfl) ?_
                refine wl_call en90 rfl rfl (rotate_calls (b2 := b2) (b6 := b6) (LL := fun y => Blk b4 152 [.func (.func 57) #[] #[.pointer (some ⟨b2, 0, none⟩), .pointer (some ⟨b6, 0, none⟩)], .func (.func 83) #[] #[.slice (some ⟨g, 0, none⟩) n n, typeHandle Try.prog 3]] :: LL y) (a := st) (m := m) (b := d + m - st) (fun x y => .there _ (UU x y)) H (by omega) (by omega) (by omega) hx) ?_
                rintro _ w24 ⟨ys, rfl, hrot, Hc⟩
                have H25 := Hc
                refine wl_nil ?_
                first
                  | exact ⟨ys, (sc rfl (sc rfl (sc rfl (sc rfl (sc rfl (sc rfl (sc rfl (sn _)))))))), hrot, H25⟩
                  | exact ⟨xs, (sc rfl (sc rfl (sc rfl (sc rfl (sc rfl (sc rfl (sc rfl (sn _)))))))), isRot_triv (by omega) (by omega) (by omega), H25⟩
              · have c11p := of_decide_eq_false c11
                refine wc_skip ?_
                first
                  | exact ⟨ys, (sc rfl (sc rfl (sc rfl (sc rfl (sc rfl (sc rfl (sc rfl (sn _)))))))), hrot, H⟩
                  | exact ⟨xs, (sc rfl (sc rfl (sc rfl (sc rfl (sc rfl (sc rfl (sc rfl (sn _)))))))), isRot_triv (by omega) (by omega) (by omega), H⟩
            · have g141p := of_decide_eq_false g141
              refine wl_off rfl rfl g141 rfl ?_
              refine wl_off rfl rfl g141 rfl ?_
              refine wl_v rfl rfl rfl (v_pick_f rfl g141 rfl) ?_
              refine wl_nil ?_
              refine wc_cond_f rfl ?_
              refine wc_skip ?_
              first
                | exact ⟨ys, (sc rfl (sc rfl (sc rfl (sc rfl (sc rfl (sc rfl (sc rfl (sn _)))))))), hrot, H⟩
                | exact ⟨xs, (sc rfl (sc rfl (sc rfl (sc rfl (sc rfl (sc rfl (sc rfl (sn _)))))))), isRot_triv (by omega) (by omega) (by omega), H⟩
          · rintro ys Wm ⟨hrot, H⟩
            obtain ⟨ht1, ht2, hX⟩ := hfo.rot ht hrot
            have hyl := hrot.perm.length_eq
            refine wc_cut (σ := List Int) (fun s => [(1, .int .i64 a), (2, .int .i64 m), (3, .int .i64 b), (4, .pointer (some ⟨b4, 0, none⟩)), (16, .int .i64 d), (18, .int .i64 st), (22, .int .i64 (d + m - st : Nat))]) (fun s W => Srtd (lnR rows) ys s a d ∧ Holds w0 (Blk b4 152 [.func (.func 57) #[] #[.pointer (some ⟨b2, 0, none⟩), .pointer (some ⟨b6, 0, none⟩)], .func (.func 83) #[] #[.slice (some ⟨g, 0, none⟩) n n, typeHandle Try.prog 3]] :: LL s) W) ?_ ?_
            · refine wc_seq ?_
              refine wc_region ?_
              refine wl_v rfl rfl rfl (v_move rfl) ?_
              refine wl_v rfl rfl rfl (v_move rfl) ?_
              refine wl_v rfl rfl rfl (v_lss rfl rfl) ?_
              refine wl_v rfl rfl rfl (v_move rfl) ?_
              refine wl_guard rfl rfl rfl (fun g154 => ?_) (fun g154 => ?_)
              · have g154p := of_decide_eq_true g154
                refine wl_v rfl rfl rfl (v_move rfl) ?_
                refine wl_on' rfl rfl g154 ?_
                refine wl_v rfl rfl rfl (v_move rfl) ?_
                refine wl_on' rfl rfl g154 ?_
                refine wl_v rfl rfl rfl (v_lss rfl rfl) ?_
                refine wl_v rfl rfl rfl (v_pick_t rfl g154 rfl) ?_
                refine wl_nil ?_
                refine wc_cond rfl (fun c12 => ?_) (fun c12 => ?_)
                · have c12p := of_decide_eq_true c12
                  refine wc_region ?_
                  refine wl_v rfl rfl rfl (v_loadN agg152 rfl rfl (H.ats (by repeat constructor))) ?_
                  refine wl_v rfl rfl rfl (v_move rfl) ?_
                  refine wl_v rfl rfl rfl (v_move rfl) ?_
                  refine wl_v rfl rfl rfl (v_move rfl) ?_
                  refine wl_call en89 rfl rfl (ih w0 _ ys (fun y => Blk b4 152 [.func (.func 57) #[] #[.pointer (some ⟨b2, 0, none⟩), .pointer (some ⟨b6, 0, none⟩)], .func (.func 83) #[] #[.slice (some ⟨g, 0, none⟩) n n, typeHandle Try.prog 3]] :: LL y) a st d hR (fun x y => .there _ (UU x y)) (fun x => .there _ (U6 x)) (fun x => .there _ (U2 x)) H (by omega) (by omega) (fun x hxm => hrg x (hrot.perm.mem_iff.1 hxm)) (by omega) (by omega) (by omega) ht1 (by omega)) ?_
                  rintro _ w26 ⟨zs, rfl, hs1, Hc⟩
                  have H27 := Hc
                  refine wl_nil ?_
                  first
                    | exact ⟨zs, (sc rfl (sc rfl (sc rfl (sc rfl (sc rfl (sc rfl (sc rfl (sn _)))))))), hs1, H27⟩
                    | exact ⟨ys, (sc rfl (sc rfl (sc rfl (sc rfl (sc rfl (sc rfl (sc rfl (sn _)))))))), ht1.triv (by omega), H27⟩
                · have c12p := of_decide_eq_false c12
                  refine wc_skip ?_
                  first
                    | exact ⟨zs, (sc rfl (sc rfl (sc rfl (sc rfl (sc rfl (sc rfl (sc rfl (sn _)))))))), hs1, H⟩
                    | exact ⟨ys, (sc rfl (sc rfl (sc rfl (sc rfl (sc rfl (sc rfl (sc rfl (sn _)))))))), ht1.triv (by omega), H⟩
              · have g154p := of_decide_eq_false g154
                refine wl_off rfl rfl g154 rfl ?_
                refine wl_off rfl rfl g154 rfl ?_
                refine wl_v rfl rfl rfl (v_pick_f rfl g154 rfl) ?_
                refine wl_nil ?_
                refine wc_cond_f rfl ?_
                refine wc_skip ?_
                first
                  | exact ⟨zs, (sc rfl (sc rfl (sc rfl (sc rfl (sc rfl (sc rfl (sc rfl (sn _)))))))), hs1, H⟩
                  | exact ⟨ys, (sc rfl (sc rfl (sc rfl (sc rfl (sc rfl (sc rfl (sc rfl (sn _)))))))), ht1.triv (by omega), H⟩
            · rintro zs Wm ⟨hs1, H⟩
              have hzp := hs1.perm.trans hrot.perm
              have hzl := hzp.length_eq
              have ht3 := ht2.same (fun q hq => hs1.out q (.inr hq)) (by omega)
              refine wc_seq ?_
              refine wc_region ?_
              refine wl_v rfl rfl rfl (v_move rfl) ?_
              refine wl_v rfl rfl rfl (v_move rfl) ?_
              refine wl_v rfl rfl rfl (v_lss rfl rfl) ?_
              refine wl_v rfl rfl rfl (v_move rfl) ?_
              refine wl_guard rfl rfl rfl (fun g167 => ?_) (fun g167 => ?_)
              · have g167p := of_decide_eq_true g167
                refine wl_v rfl rfl rfl (v_move rfl) ?_
                refine wl_on' rfl rfl g167 ?_
                refine wl_v rfl rfl rfl (v_move rfl) ?_
                refine wl_on' rfl rfl g167 ?_
                refine wl_v rfl rfl rfl (v_lss rfl rfl) ?_
                refine wl_v rfl rfl rfl (v_pick_t rfl g167 rfl) ?_
                refine wl_nil ?_
                refine wc_cond rfl (fun c13 => ?_) (fun c13 => ?_)
                · have c13p := of_decide_eq_true c13
                  refine wc_region ?_
                  refine wl_v rfl rfl rfl (v_loadN agg152 rfl rfl (H.ats (by repeat constructor))) ?_
                  refine wl_v rfl rfl rfl (v_move rfl) ?_
                  refine wl_v rfl rfl rfl (v_move rfl) ?_
                  refine wl_v rfl rfl rfl (v_move rfl) ?_
                  refine wl_call en89 rfl rfl (ih w0 _ zs (fun y => Blk b4 152 [.func (.func 57) #[] #[.pointer (some ⟨b2, 0, none⟩), .pointer (some ⟨b6, 0, none⟩)], .func (.func 83) #[] #[.slice (some ⟨g, 0, none⟩) n n, typeHandle Try.prog 3]] :: LL y) d (d + m - st) b hR (fun x y => .there _ (UU x y)) (fun x => .there _ (U6 x)) (fun x => .there _ (U2 x)) H (by omega) (by omega) (fun x hxm => hrg x (hzp.mem_iff.1 hxm)) (by omega) (by omega) (by omega) ht3 (by omega)) ?_
                  rintro _ w28 ⟨us, rfl, hs2, Hc⟩
                  have H29 := Hc
                  refine wl_nil ?_
                  first
                    | exact ⟨_, res0 rfl, _, rfl, baseU ht (k := s) (by omega) hbl (fun q e1 e2 => h4 q e1 (by omega)) (fun q e1 e2 => h5 q (by omega) e2), H29.tail⟩
                    | exact ⟨_, res0 rfl, _, rfl, baseD ht (k := s) (by omega) (by omega) (fun q e1 e2 => h5 q (by omega) e2) (fun q e1 e2 => h4 q e1 (by omega)), H29.tail⟩
                    | exact ⟨_, res0 rfl, _, rfl, merged hfo hrot (by omega) (by omega) hX hs1 hs2, H29.tail⟩
                    | exact ⟨_, res0 rfl, _, rfl, merged hfo hrot (by omega) (by omega) hX hs1 (ht3.triv (by omega)), H29.tail⟩
                · have c13p := of_decide_eq_false c13
                  refine wc_skip ?_
                  first
                    | exact ⟨_, res0 rfl, _, rfl, baseU ht (k := s) (by omega) hbl (fun q e1 e2 => h4 q e1 (by omega)) (fun q e1 e2 => h5 q (by omega) e2), H.tail⟩
                    | exact ⟨_, res0 rfl, _, rfl, baseD ht (k := s) (by omega) (by omega) (fun q e1 e2 => h5 q (by omega) e2) (fun q e1 e2 => h4 q e1 (by omega)), H.tail⟩
                    | exact ⟨_, res0 rfl, _, rfl, merged hfo hrot (by omega) (by omega) hX hs1 hs2, H.tail⟩
                    | exact ⟨_, res0 rfl, _, rfl, merged hfo hrot (by omega) (by omega) hX hs1 (ht3.triv (by omega)), H.tail⟩
              · have g167p := of_decide_eq_false g167
                refine wl_off rfl rfl g167 rfl ?_
                refine wl_off rfl rfl g167 rfl ?_
                refine wl_v rfl rfl rfl (v_pick_f rfl g167 rfl) ?_
                refine wl_nil ?_
                refine wc_cond_f rfl ?_
                refine wc_skip ?_
                first
                  | exact ⟨_, res0 rfl, _, rfl, baseU ht (k := s) (by omega) hbl (fun q e1 e2 => h4 q e1 (by omega)) (fun q e1 e2 => h5 q (by omega) e2), H.tail⟩
                  | exact ⟨_, res0 rfl, _, rfl, baseD ht (k := s) (by omega) (by omega) (fun q e1 e2 => h5 q (by omega) e2) (fun q e1 e2 => h4 q e1 (by omega)), H.tail⟩
                  | exact ⟨_, res0 rfl, _, rfl, merged hfo hrot (by omega) (by omega) hX hs1 hs2, H.tail⟩
                  | exact ⟨_, res0 rfl, _, rfl, merged hfo hrot (by omega) (by omega) hX hs1 (ht3.triv (by omega)), H.tail⟩

theorem merge_ok {R : Option Addr} {cr b2 b6 g n : Nat} {rows : List (List Int)} : ∀ k, SymOk R cr b2 b6 g n rows k
  | 0 => fun w0 w xs LL a m b _ _ _ _ _ _ _ _ ham hmb _ _ hk => absurd hk (by omega)
  | k + 1 => fun w0 w xs LL a m b hR UU U6 U2 HH hn hx hrg ham hmb hbl ht hk => merge_step hR UU U6 U2 HH hn hx hrg ham hmb hbl ht (merge_ok k) hk
end Go.Proofs.Ytkpehkadammppaa.Merge

/-! Insertion sort of the order. -/
namespace Go.Proofs.Ytkpehkadammppaa.Insr
open Go Go.RowKit Go.Proofs.YtkpehkadammppaaFx Go.Proofs.Ytkpehkadammppaa.SwapW Go.Proofs.Ytkpehkadammppaa.Less
theorem en57 : Enters Try.prog 57 := enters Try.func57 (by kernel_rfl) rfl
theorem fa152_0 : FieldAt Try.prog 152 0 0 := field_at (sz := 0) Try.underlying152 rfl (by kernel_rfl) rfl
theorem fa152_1 : FieldAt Try.prog 152 1 1 := field_at (sz := 0) Try.underlying152 rfl (by kernel_rfl) rfl
theorem one118 : One Try.prog 118 := one_of Try.underlying118 rfl (by kernel_rfl)
theorem one135 : One Try.prog 135 := one_of Try.underlying135 rfl (by kernel_rfl)

set_option maxRecDepth 100000 in
theorem insertion_calls {R : Option Addr} {cr b2 b6 g n : Nat} {w0 w : World} {xs : List Int} {rows : List (List Int)} {LL : List Int → List Ch} (hR : Rd (kInt .i64).sl w0 R rows) (UU : ∀ x y, Upd (LL x) (Row (fInt .i64) 3 (.slice (some ⟨g, 0, none⟩) n n) x) (Row (fInt .i64) 3 (.slice (some ⟨g, 0, none⟩) n n) y) (LL y)) (U6 : ∀ x, Upd (LL x) (Blk b6 39 [.slice (some ⟨g, 0, none⟩) n n]) (Blk b6 39 [.slice (some ⟨g, 0, none⟩) n n]) (LL x)) (U2 : ∀ x, Upd (LL x) (Blk b2 23 [.slice R rows.length cr]) (Blk b2 23 [.slice R rows.length cr]) (LL x))
    (HH : Holds w0 (LL xs) w) (hn : n = xs.length) (hx : xs.length ≤ 1099511627776) (hrg : ∀ x ∈ xs, 0 ≤ x ∧ x < rows.length) {a b : Nat} (hab : a ≤ b) (hl : b ≤ xs.length) (hasc : Asc xs a b) :
    Calls Try.prog 88 #[.agg #[.func (.func 57) #[] #[.pointer (some ⟨b2, 0, none⟩), .pointer (some ⟨b6, 0, none⟩)], .func (.func 83) #[] #[.slice (some ⟨g, 0, none⟩) n n, typeHandle Try.prog 3]], .int .i64 a, .int .i64 b] w fun e w' => ∃ v, e = .returned v ∧ ∃ ys, v = .tuple #[] ∧ Srtd (lnR rows) xs ys a b ∧ Holds w0 (LL ys) w' := by
  refine calls_of Try.func88 rfl Try.ntmps88 rfl ?_
  have H := HH
  refine wc_seq ?_
  refine wc_region ?_
  refine wl_box (cs := [_, _]) H rfl rfl rfl ?_
  intro b3 w1 hb3 H2
  refine wl_nil ?_
  refine wc_seq ?_
  refine wc_region ?_
  refine wl_v rfl rfl rfl (v_move rfl) ?_
  refine wl_v rfl rfl rfl (v_addi rfl rfl (by omega)) ?_
  refine wl_v rfl rfl rfl (v_assign rfl) ?_
  refine wl_nil ?_
  refine wc_block ?_
  refine wc_loop (σ := Nat × List Int) (fun s => [(1, .int .i64 a), (2, .int .i64 b), (3, .pointer (some ⟨b3, 0, none⟩)), (6, .int .i64 s.1)]) (fun s W => (a + 1 ≤ s.1 ∧ (s.1 ≤ b ∨ s.1 = a + 1) ∧ Srtd (lnR rows) xs s.2 a s.1 ∧ (s.1 = a + 1 → s.2 = xs)) ∧ Holds w0 (Blk b3 152 [.func (.func 57) #[] #[.pointer (some ⟨b2, 0, none⟩), .pointer (some ⟨b6, 0, none⟩)], .func (.func 83) #[] #[.slice (some ⟨g, 0, none⟩) n n, typeHandle Try.prog 3]] :: LL s.2) W) (fun s => b + 1 - s.1) (a + 1, xs) (sc rfl (sc rfl (sc rfl (sc rfl (sn _))))) ⟨⟨Nat.le_refl _, .inr rfl, Srtd.one _ _ (Nat.le_refl _), fun _ => rfl⟩, H2⟩ ?_
  rintro ⟨i, ys⟩ W0 ⟨⟨h1, h2, h3, h9⟩, H⟩
  dsimp only at h1 h2 h3 h9 H ⊢
  refine wc_seq ?_
  refine wc_seq ?_
  refine wc_region ?_
  refine wl_v rfl rfl rfl (v_move rfl) ?_
  refine wl_v rfl rfl rfl (v_move rfl) ?_
  refine wl_v rfl rfl rfl (v_lss rfl rfl) ?_
  refine wl_nil ?_
  refine wc_cond rfl (fun c0 => ?_) (fun c0 => ?_)
  · have c0p := of_decide_eq_true c0
    refine wc_skip ?_
    refine wc_seq ?_
    refine wc_block ?_
    refine wc_seq ?_
    refine wc_region ?_
    refine wl_v rfl rfl rfl (v_move rfl) ?_
    refine wl_v rfl rfl rfl (v_assign rfl) ?_
    refine wl_nil ?_
    refine wc_block ?_
    refine wc_loop (σ := Nat × List Int) (fun s => [(1, .int .i64 a), (2, .int .i64 b), (3, .pointer (some ⟨b3, 0, none⟩)), (6, .int .i64 i), (7, .int .i64 s.1)]) (fun s W => Ins (lnR rows) ys s.2 a i s.1 ∧ Holds w0 (Blk b3 152 [.func (.func 57) #[] #[.pointer (some ⟨b2, 0, none⟩), .pointer (some ⟨b6, 0, none⟩)], .func (.func 83) #[] #[.slice (some ⟨g, 0, none⟩) n n, typeHandle Try.prog 3]] :: LL s.2) W) (fun s => s.1) (i, ys) (sc rfl (sc rfl (sc rfl (sc rfl (sc rfl (sn _)))))) ⟨h3.ins (by omega) (b := b) (by omega) hasc, H⟩ ?_
    rintro ⟨j, zs⟩ W1 ⟨hins, H⟩
    dsimp only at hins H ⊢
    have hzp := hins.perm.trans h3.perm
    have hzl := hzp.length_eq
    have hlo := hins.lo
    have hhi := hins.hi
    refine wc_seq ?_
    refine wc_seq ?_
    refine wc_region ?_
    refine wl_v rfl rfl rfl (v_move rfl) ?_
    refine wl_v rfl rfl rfl (v_move rfl) ?_
    refine wl_v rfl rfl rfl (v_gtr rfl rfl) ?_
    refine wl_v rfl rfl rfl (v_move rfl) ?_
    refine wl_guard rfl rfl rfl (fun g19 => ?_) (fun g19 => ?_)
    · have g19p := of_decide_eq_true g19
      have hj1 : ((j - 1 : Nat) : Int) = (j : Int) - 1 := by omega
      refine wl_v rfl rfl rfl (v_fb (o2 := 0) fa152_0 rfl rfl) ?_
      refine wl_on' rfl rfl g19 ?_
      refine wl_v rfl rfl rfl (v_load one118 rfl (H.at (by repeat constructor) rfl)) ?_
      refine wl_on' rfl rfl g19 ?_
      refine wl_v rfl rfl rfl (v_move rfl) ?_
      refine wl_on' rfl rfl g19 ?_
      refine wl_v rfl rfl rfl (v_move rfl) ?_
      refine wl_on' rfl rfl g19 ?_
      refine wl_v rfl rfl rfl (v_subi rfl rfl (by omega)) ?_
      refine wl_on' rfl rfl g19 ?_
      refine wl_callv (first := []) (captured := [.pointer (some ⟨b2, 0, none⟩), .pointer (some ⟨b6, 0, none⟩)]) en57 rfl rfl rfl (by have h := less_calls (A := some ⟨g, 0, none⟩) (n := n) (c := n) (xs := zs) (i := j) (k := j - 1) (fun u v hu => H.at (.there _ (U2 zs)) hu) (fun u v hu => H.at (.there _ (U6 zs)) hu) (H.rrd (f := fInt .i64) (e := 3) (.there _ (UU zs zs))) (hR.below H.old) (by omega) (by omega) (by omega) (fun x hxm => hrg x (hzp.mem_iff.1 hxm)); rw [hj1] at h; exact h) ?_
      rintro _ w3 ⟨rfl, Hc⟩
      have H4 := H.call0 Hc
      refine wl_v rfl rfl rfl (v_pick_t rfl g19 rfl) ?_
      refine wl_nil ?_
      refine wc_cond rfl (fun c1 => ?_) (fun c1 => ?_)
      · have c1p := of_decide_eq_true c1
        refine wc_skip ?_
        refine wc_seq ?_
        refine wc_block ?_
        refine wc_region ?_
        refine wl_v rfl rfl rfl (v_fb (o2 := 1) fa152_1 rfl rfl) ?_
        refine wl_v rfl rfl rfl (v_load one135 rfl (H4.at (by repeat constructor) rfl)) ?_
        refine wl_v rfl rfl rfl (v_move rfl) ?_
        refine wl_v rfl rfl rfl (v_move rfl) ?_
        refine wl_v rfl rfl rfl (v_subi rfl rfl (by omega)) ?_
        obtain ⟨ws5, hsw, H5⟩ := swap_run (g := g) (n := n) (i := j) (j := j - 1) (xs := zs) H4 (.there _ (UU _ _)) (by omega) (by omega)
        refine wl_extv (first := []) (vs := [.int .i64 ((j : Nat) : Int), .int .i64 ((j - 1 : Nat) : Int)]) (captured := [.slice (some ⟨g, 0, none⟩) n n, typeHandle Try.prog 3]) rfl (by rw [hj1]; rfl) rfl hsw ?_
        refine wl_nil ?_
        refine wc_region ?_
        refine wl_v rfl rfl rfl (v_move rfl) ?_
        refine wl_v rfl rfl rfl (v_subi rfl rfl (by omega)) ?_
        refine wl_v rfl rfl rfl (v_assign rfl) ?_
        refine wl_nil ?_
        exact ⟨(j - 1, swp zs j (j - 1)), by rw [hj1]; exact (sc rfl (sc rfl (sc rfl (sc rfl (sc rfl (sn _)))))), ⟨hins.step (by omega) (by omega) (show (rows.getD (zs.getD (j - 1) 0).toNat []).length < (rows.getD (zs.getD j 0).toNat []).length by omega), H5⟩, by dsimp only; omega⟩
      · have c1p := of_decide_eq_false c1
        refine wc_exit ?_
        refine wc_region ?_
        refine wl_v rfl rfl rfl (v_move rfl) ?_
        refine wl_v rfl rfl rfl (v_addi rfl rfl (by omega)) ?_
        refine wl_v rfl rfl rfl (v_assign rfl) ?_
        refine wl_nil ?_
        exact ⟨(i + 1, zs), (sc rfl (sc rfl (sc rfl (sc rfl (sn _))))), ⟨⟨by dsimp only; omega, .inl (by dsimp only; omega), h3.next hins (by first | (left; omega) | (right; show ¬ ((rows.getD (zs.getD (j - 1) 0).toNat []).length < (rows.getD (zs.getD j 0).toNat []).length); omega)), fun h => absurd h (by dsimp only; omega)⟩, H4⟩, by dsimp only; omega⟩
    · have g19p := of_decide_eq_false g19
      refine wl_off rfl rfl g19 rfl ?_
      refine wl_off rfl rfl g19 rfl ?_
      refine wl_off rfl rfl g19 rfl ?_
      refine wl_off rfl rfl g19 rfl ?_
      refine wl_off rfl rfl g19 rfl ?_
      refine wl_v rfl rfl rfl (v_pick_f rfl g19 rfl) ?_
      refine wl_nil ?_
      refine wc_cond_f rfl ?_
      refine wc_exit ?_
      refine wc_region ?_
      refine wl_v rfl rfl rfl (v_move rfl) ?_
      refine wl_v rfl rfl rfl (v_addi rfl rfl (by omega)) ?_
      refine wl_v rfl rfl rfl (v_assign rfl) ?_
      refine wl_nil ?_
      exact ⟨(i + 1, zs), (sc rfl (sc rfl (sc rfl (sc rfl (sn _))))), ⟨⟨by dsimp only; omega, .inl (by dsimp only; omega), h3.next hins (by first | (left; omega) | (right; show ¬ ((rows.getD (zs.getD (j - 1) 0).toNat []).length < (rows.getD (zs.getD j 0).toNat []).length); omega)), fun h => absurd h (by dsimp only; omega)⟩, H⟩, by dsimp only; omega⟩
  · have c0p := of_decide_eq_false c0
    refine wc_exit ?_
    rcases (show b = i ∨ b ≤ a by omega) with e | e
    · exact ⟨_, res0 rfl, _, rfl, (by rw [e]; exact h3), H.tail⟩
    · exact ⟨_, res0 rfl, _, rfl, (by rw [h9 (by omega)]; exact Srtd.one _ _ (by omega)), H.tail⟩
end Go.Proofs.Ytkpehkadammppaa.Insr

/-! The stable sort of the order. -/
namespace Go.Proofs.Ytkpehkadammppaa.Stbl
open Go Go.RowKit Go.Proofs.YtkpehkadammppaaFx Go.Proofs.Ytkpehkadammppaa.SwapW Go.Proofs.Ytkpehkadammppaa.Less Go.Proofs.Ytkpehkadammppaa.Rot Go.Proofs.Ytkpehkadammppaa.Merge Go.Proofs.Ytkpehkadammppaa.Insr
theorem agg152 : Agg Try.prog 152 2 := agg_of Try.underlying152 (by kernel_rfl)
theorem en88 : Enters Try.prog 88 := enters Try.func88 (by kernel_rfl) rfl
theorem en89 : Enters Try.prog 89 := enters Try.func89 (by kernel_rfl) rfl

set_option maxRecDepth 100000 in
theorem stable_calls {R : Option Addr} {cr q2 q6 g n : Nat} {w0 w : World} {xs : List Int} {rows : List (List Int)} {LL : List Int → List Ch} (hR : Rd (kInt .i64).sl w0 R rows) (UU : ∀ x y, Upd (LL x) (Row (fInt .i64) 3 (.slice (some ⟨g, 0, none⟩) n n) x) (Row (fInt .i64) 3 (.slice (some ⟨g, 0, none⟩) n n) y) (LL y)) (U6 : ∀ x, Upd (LL x) (Blk q6 39 [.slice (some ⟨g, 0, none⟩) n n]) (Blk q6 39 [.slice (some ⟨g, 0, none⟩) n n]) (LL x)) (U2 : ∀ x, Upd (LL x) (Blk q2 23 [.slice R rows.length cr]) (Blk q2 23 [.slice R rows.length cr]) (LL x))
    (HH : Holds w0 (LL xs) w) (hn : n = xs.length) (hx : xs.length ≤ 1099511627776) (hrg : ∀ x ∈ xs, 0 ≤ x ∧ x < rows.length) (hasc : Asc xs 0 xs.length) :
    Calls Try.prog 73 #[.agg #[.func (.func 57) #[] #[.pointer (some ⟨q2, 0, none⟩), .pointer (some ⟨q6, 0, none⟩)], .func (.func 83) #[] #[.slice (some ⟨g, 0, none⟩) n n, typeHandle Try.prog 3]], .int .i64 xs.length] w fun e w' => ∃ v, e = .returned v ∧ ∃ ys, v = .tuple #[] ∧ ys.Perm xs ∧ Sd (lnR rows) ys 0 xs.length ∧ Holds w0 (LL ys) w' := by
  refine calls_of Try.func73 rfl Try.ntmps73 rfl ?_
  have H := HH
  refine wc_seq ?_
  refine wc_region ?_
  refine wl_box (cs := [_, _]) H rfl rfl rfl ?_
  intro b2 w1 hb2 H2
  refine wl_nil ?_
  refine wc_seq ?_
  refine wc_region ?_
  refine wl_v rfl rfl rfl (v_assign rfl) ?_
  refine wl_nil ?_
  refine wc_seq ?_
  refine wc_region ?_
  refine wl_v rfl rfl rfl (v_move rfl) ?_
  refine wl_v rfl rfl rfl (v_assign rfl) ?_
  refine wl_v rfl rfl rfl (v_assign rfl) ?_
  refine wl_nil ?_
  refine wc_seq ?_
  refine wc_block ?_
  refine wc_loop (σ := Nat × List Int) (fun s => [(1, .int .i64 xs.length), (2, .pointer (some ⟨b2, 0, none⟩)), (4, .int .i64 20), (5, .int .i64 s.1), (6, .int .i64 (s.1 + 20 : Nat))]) (fun s W => (s.1 ≤ xs.length ∧ Pass (lnR rows) xs xs s.2 20 s.1) ∧ Holds w0 (Blk b2 152 [.func (.func 57) #[] #[.pointer (some ⟨q2, 0, none⟩), .pointer (some ⟨q6, 0, none⟩)], .func (.func 83) #[] #[.slice (some ⟨g, 0, none⟩) n n, typeHandle Try.prog 3]] :: LL s.2) W) (fun s => xs.length - s.1) (0, xs) (sc rfl (sc rfl (sc rfl (sc rfl (sc rfl (sn _)))))) ⟨⟨Nat.zero_le _, Pass.start (by omega) (.refl _)⟩, H2⟩ ?_
  rintro ⟨a, ys⟩ W0 ⟨⟨ha, hp⟩, H⟩
  dsimp only at ha hp H ⊢
  have hyl := hp.perm.length_eq
  refine wc_seq ?_
  refine wc_seq ?_
  refine wc_region ?_
  refine wl_v rfl rfl rfl (v_move rfl) ?_
  refine wl_v rfl rfl rfl (v_move rfl) ?_
  refine wl_v rfl rfl rfl (v_leq rfl rfl) ?_
  refine wl_nil ?_
  refine wc_cond rfl (fun c0 => ?_) (fun c0 => ?_)
  · have c0p := of_decide_eq_true c0
    refine wc_skip ?_
    refine wc_block ?_
    refine wc_seq ?_
    refine wc_region ?_
    refine wl_v rfl rfl rfl (v_loadN agg152 rfl rfl (H.ats (by repeat constructor))) ?_
    refine wl_v rfl rfl rfl (v_move rfl) ?_
    refine wl_v rfl rfl rfl (v_move rfl) ?_
    refine wl_call en88 rfl rfl (insertion_calls (b2 := q2) (b6 := q6) (LL := fun y => Blk b2 152 [.func (.func 57) #[] #[.pointer (some ⟨q2, 0, none⟩), .pointer (some ⟨q6, 0, none⟩)], .func (.func 83) #[] #[.slice (some ⟨g, 0, none⟩) n n, typeHandle Try.prog 3]] :: LL y) (a := a) (b := a + 20) hR (fun x y => .there _ (UU x y)) (fun x => .there _ (U6 x)) (fun x => .there _ (U2 x)) H (by rw [hn]; exact hp.perm.length_eq.symm) (by rw [hp.perm.length_eq]; exact hx) (fun x hxm => hrg x (hp.perm.mem_iff.1 hxm)) (by omega) (by omega) ((hp.asc hasc).cut (by omega))) ?_
    rintro _ w3 ⟨zs, rfl, hs, Hc⟩
    have H4 := Hc
    refine wl_nil ?_
    refine wc_seq ?_
    refine wc_region ?_
    refine wl_v rfl rfl rfl (v_move rfl) ?_
    refine wl_v rfl rfl rfl (v_assign rfl) ?_
    refine wl_nil ?_
    refine wc_region ?_
    refine wl_v rfl rfl rfl (v_move rfl) ?_
    refine wl_v rfl rfl rfl (v_move rfl) ?_
    refine wl_v rfl rfl rfl (v_addi rfl rfl (by omega)) ?_
    refine wl_v rfl rfl rfl (v_assign rfl) ?_
    refine wl_nil ?_
    exact ⟨(a + 20, zs), (sc rfl (sc rfl (sc rfl (sc rfl (sc rfl (sn _)))))), ⟨⟨by dsimp only; omega, hp.next (by omega) hs hp.keeps⟩, H4⟩, by dsimp only; omega⟩
  · have c0p := of_decide_eq_false c0
    refine wc_exit ?_
    refine wc_seq ?_
    refine wc_region ?_
    refine wl_v rfl rfl rfl (v_loadN agg152 rfl rfl (H.ats (by repeat constructor))) ?_
    refine wl_v rfl rfl rfl (v_move rfl) ?_
    refine wl_v rfl rfl rfl (v_move rfl) ?_
    refine wl_call en88 rfl rfl (insertion_calls (b2 := q2) (b6 := q6) (LL := fun y => Blk b2 152 [.func (.func 57) #[] #[.pointer (some ⟨q2, 0, none⟩), .pointer (some ⟨q6, 0, none⟩)], .func (.func 83) #[] #[.slice (some ⟨g, 0, none⟩) n n, typeHandle Try.prog 3]] :: LL y) (a := a) (b := xs.length) hR (fun x y => .there _ (UU x y)) (fun x => .there _ (U6 x)) (fun x => .there _ (U2 x)) H (by rw [hn]; exact hp.perm.length_eq.symm) (by rw [hp.perm.length_eq]; exact hx) (fun x hxm => hrg x (hp.perm.mem_iff.1 hxm)) (by omega) (by omega) ((hp.asc hasc).cut (by omega))) ?_
    rintro _ w5 ⟨zs, rfl, hs, Hc⟩
    have H6 := Hc
    refine wl_nil ?_
    refine wc_block ?_
    refine wc_loop (σ := Nat × List Int) (fun s => [(1, .int .i64 xs.length), (2, .pointer (some ⟨b2, 0, none⟩)), (4, .int .i64 s.1)]) (fun s W => (0 < s.1 ∧ s.1 ≤ 2199023255552 ∧ Runs (lnR rows) xs s.2 s.1 xs.length) ∧ Holds w0 (Blk b2 152 [.func (.func 57) #[] #[.pointer (some ⟨q2, 0, none⟩), .pointer (some ⟨q6, 0, none⟩)], .func (.func 83) #[] #[.slice (some ⟨g, 0, none⟩) n n, typeHandle Try.prog 3]] :: LL s.2) W) (fun s => xs.length - s.1) (20, zs) (sc rfl (sc rfl (sc rfl (sn _)))) ⟨⟨by dsimp only; omega, by dsimp only; omega, hp.done hs hp.keeps ha (by omega)⟩, H6⟩ ?_
    rintro ⟨k, ys⟩ W1 ⟨⟨k1, k2, hr⟩, H⟩
    dsimp only at k1 k2 hr H ⊢
    refine wc_seq ?_
    refine wc_seq ?_
    refine wc_region ?_
    refine wl_v rfl rfl rfl (v_move rfl) ?_
    refine wl_v rfl rfl rfl (v_move rfl) ?_
    refine wl_v rfl rfl rfl (v_lss rfl rfl) ?_
    refine wl_nil ?_
    refine wc_cond rfl (fun c1 => ?_) (fun c1 => ?_)
    · have c1p := of_decide_eq_true c1
      have e2 : IntKind.i64.wrap (2 * (k : Int)) = ((2 * k : Nat) : Int) := by rw [IntWalk.i64_in _ (by omega)]; omega
      have e3 : IntKind.i64.wrap ((k : Int) * 2) = ((2 * k : Nat) : Int) := by rw [IntWalk.i64_in _ (by omega)]; omega
      refine wc_skip ?_
      refine wc_block ?_
      refine wc_seq ?_
      refine wc_region ?_
      refine wl_v rfl rfl rfl (v_move rfl) ?_
      refine wl_v rfl rfl rfl (v_mul rfl rfl) ?_
      rw [e2]
      refine wl_v rfl rfl rfl (v_assign rfl) ?_
      refine wl_v rfl rfl rfl (v_assign rfl) ?_
      refine wl_nil ?_
      refine wc_seq ?_
      refine wc_block ?_
      refine wc_loop (σ := Nat × List Int) (fun s => [(1, .int .i64 xs.length), (2, .pointer (some ⟨b2, 0, none⟩)), (4, .int .i64 k), (5, .int .i64 s.1), (6, .int .i64 (s.1 + 2 * k : Nat))]) (fun s W => (s.1 ≤ xs.length ∧ Pass (lnR rows) xs ys s.2 (2 * k) s.1) ∧ Holds w0 (Blk b2 152 [.func (.func 57) #[] #[.pointer (some ⟨q2, 0, none⟩), .pointer (some ⟨q6, 0, none⟩)], .func (.func 83) #[] #[.slice (some ⟨g, 0, none⟩) n n, typeHandle Try.prog 3]] :: LL s.2) W) (fun s => xs.length - s.1) (0, ys) (by rw [Nat.zero_add]; exact (sc rfl (sc rfl (sc rfl (sc rfl (sc rfl (sn _))))))) ⟨⟨Nat.zero_le _, Pass.start (by omega) hr.perm⟩, H⟩ ?_
      rintro ⟨a, zs⟩ W2 ⟨⟨ha, hp⟩, H⟩
      dsimp only at ha hp H ⊢
      have hzl := hp.perm.length_eq
      refine wc_seq ?_
      refine wc_seq ?_
      refine wc_region ?_
      refine wl_v rfl rfl rfl (v_move rfl) ?_
      refine wl_v rfl rfl rfl (v_move rfl) ?_
      refine wl_v rfl rfl rfl (v_leq rfl rfl) ?_
      refine wl_nil ?_
      refine wc_cond rfl (fun c2 => ?_) (fun c2 => ?_)
      · have c2p := of_decide_eq_true c2
        have ht := hp.two (b := a + 2 * k) hr hasc (by omega) (by omega)
        refine wc_skip ?_
        refine wc_block ?_
        refine wc_seq ?_
        refine wc_region ?_
        refine wl_v rfl rfl rfl (v_loadN agg152 rfl rfl (H.ats (by repeat constructor))) ?_
        refine wl_v rfl rfl rfl (v_move rfl) ?_
        refine wl_v rfl rfl rfl (v_move rfl) ?_
        refine wl_v rfl rfl rfl (v_move rfl) ?_
        refine wl_v rfl rfl rfl (v_addi rfl rfl (by omega)) ?_
        refine wl_v rfl rfl rfl (v_move rfl) ?_
        refine wl_call en89 rfl rfl (merge_ok (a + 2 * k) w0 _ zs (fun y => Blk b2 152 [.func (.func 57) #[] #[.pointer (some ⟨q2, 0, none⟩), .pointer (some ⟨q6, 0, none⟩)], .func (.func 83) #[] #[.slice (some ⟨g, 0, none⟩) n n, typeHandle Try.prog 3]] :: LL y) a (a + k) (a + 2 * k) hR (fun x y => .there _ (UU x y)) (fun x => .there _ (U6 x)) (fun x => .there _ (U2 x)) H (by rw [hn]; exact hp.perm.length_eq.symm) (by rw [hp.perm.length_eq]; exact hx) (fun x hxm => hrg x (hp.perm.mem_iff.1 hxm)) (by omega) (by omega) (by omega) ht.1 (by omega)) ?_
        rintro _ w8 ⟨us, rfl, hs, Hc⟩
        have H9 := Hc
        refine wl_nil ?_
        refine wc_seq ?_
        refine wc_region ?_
        refine wl_v rfl rfl rfl (v_move rfl) ?_
        refine wl_v rfl rfl rfl (v_assign rfl) ?_
        refine wl_nil ?_
        refine wc_region ?_
        refine wl_v rfl rfl rfl (v_move rfl) ?_
        refine wl_v rfl rfl rfl (v_move rfl) ?_
        refine wl_v rfl rfl rfl (v_mul rfl rfl) ?_
        rw [e2]
        refine wl_v rfl rfl rfl (v_addi rfl rfl (by omega)) ?_
        refine wl_v rfl rfl rfl (v_assign rfl) ?_
        refine wl_nil ?_
        exact ⟨(a + 2 * k, us), (sc rfl (sc rfl (sc rfl (sc rfl (sc rfl (sn _)))))), ⟨⟨by dsimp only; omega, hp.next (by omega) hs ht.2⟩, H9⟩, by dsimp only; omega⟩
      · have c2p := of_decide_eq_false c2
        refine wc_exit ?_
        refine wc_seq ?_
        refine wc_seq ?_
        refine wc_region ?_
        refine wl_v rfl rfl rfl (v_move rfl) ?_
        refine wl_v rfl rfl rfl (v_move rfl) ?_
        refine wl_v rfl rfl rfl (v_addi rfl rfl (by omega)) ?_
        refine wl_v rfl rfl rfl (v_assign rfl) ?_
        refine wl_nil ?_
        refine wc_seq ?_
        refine wc_region ?_
        refine wl_v rfl rfl rfl (v_move rfl) ?_
        refine wl_v rfl rfl rfl (v_move rfl) ?_
        refine wl_v rfl rfl rfl (v_lss rfl rfl) ?_
        refine wl_nil ?_
        refine wc_cond rfl (fun c3 => ?_) (fun c3 => ?_)
        · have c3p := of_decide_eq_true c3
          have ht := hp.two (b := xs.length) hr hasc (by omega) (by omega)
          refine wc_region ?_
          refine wl_v rfl rfl rfl (v_loadN agg152 rfl rfl (H.ats (by repeat constructor))) ?_
          refine wl_v rfl rfl rfl (v_move rfl) ?_
          refine wl_v rfl rfl rfl (v_move rfl) ?_
          refine wl_v rfl rfl rfl (v_move rfl) ?_
          refine wl_call en89 rfl rfl (merge_ok (xs.length) w0 _ zs (fun y => Blk b2 152 [.func (.func 57) #[] #[.pointer (some ⟨q2, 0, none⟩), .pointer (some ⟨q6, 0, none⟩)], .func (.func 83) #[] #[.slice (some ⟨g, 0, none⟩) n n, typeHandle Try.prog 3]] :: LL y) a (a + k) (xs.length) hR (fun x y => .there _ (UU x y)) (fun x => .there _ (U6 x)) (fun x => .there _ (U2 x)) H (by rw [hn]; exact hp.perm.length_eq.symm) (by rw [hp.perm.length_eq]; exact hx) (fun x hxm => hrg x (hp.perm.mem_iff.1 hxm)) (by omega) (by omega) (by omega) ht.1 (by omega)) ?_
          rintro _ w11 ⟨us, rfl, hs, Hc⟩
          have H12 := Hc
          refine wl_nil ?_
          refine wc_region ?_
          refine wl_v rfl rfl rfl (v_move rfl) ?_
          refine wl_v rfl rfl rfl (v_mul rfl rfl) ?_
          rw [e3]
          refine wl_v rfl rfl rfl (v_assign rfl) ?_
          refine wl_nil ?_
          first
            | exact ⟨(2 * k, us), (sc rfl (sc rfl (sc rfl (sn _)))), ⟨⟨by dsimp only; omega, by dsimp only; omega, hp.done hs ht.2 ha (by omega)⟩, H12⟩, by dsimp only; omega⟩
            | exact ⟨(2 * k, zs), (sc rfl (sc rfl (sc rfl (sn _)))), ⟨⟨by dsimp only; omega, by dsimp only; omega, hp.done ho.1 ho.2 ha (by omega)⟩, H12⟩, by dsimp only; omega⟩
        · have c3p := of_decide_eq_false c3
          have ho := hp.one hr ha (by omega)
          refine wc_skip ?_
          refine wc_region ?_
          refine wl_v rfl rfl rfl (v_move rfl) ?_
          refine wl_v rfl rfl rfl (v_mul rfl rfl) ?_
          rw [e3]
          refine wl_v rfl rfl rfl (v_assign rfl) ?_
          refine wl_nil ?_
          first
            | exact ⟨(2 * k, us), (sc rfl (sc rfl (sc rfl (sn _)))), ⟨⟨by dsimp only; omega, by dsimp only; omega, hp.done hs ht.2 ha (by omega)⟩, H⟩, by dsimp only; omega⟩
            | exact ⟨(2 * k, zs), (sc rfl (sc rfl (sc rfl (sn _)))), ⟨⟨by dsimp only; omega, by dsimp only; omega, hp.done ho.1 ho.2 ha (by omega)⟩, H⟩, by dsimp only; omega⟩
    · have c1p := of_decide_eq_false c1
      refine wc_exit ?_
      exact ⟨_, res0 rfl, _, rfl, hr.perm, hr.all (by omega), H.tail⟩
end Go.Proofs.Ytkpehkadammppaa.Stbl

/-! sort.SliceStable of the order, two elements or more. -/
namespace Go.Proofs.Ytkpehkadammppaa.SortS
open Go Go.RowKit Go.Proofs.YtkpehkadammppaaFx Go.Proofs.Ytkpehkadammppaa.SortT Go.Proofs.Ytkpehkadammppaa.Stbl
theorem agg147 : Agg Try.prog 147 3 := agg_of Try.underlying147 (by kernel_rfl)
theorem ba152 : BuildAt Try.prog 152 [.nilFunc, .nilFunc] [(0, 1), (1, 1)] := build_at Try.underlying152 (by kernel_rfl) (by kernel_rfl)
theorem en73 : Enters Try.prog 73 := enters Try.func73 (by kernel_rfl) rfl
theorem sz147 : ∀ W, (sizeOf 147).run Try.prog W = .ok 3 W := size_of (by kernel_rfl)
theorem zv147 : ∀ W, (zeroValue 147).run Try.prog W = .ok (.agg #[.pointer none, .pointer none, .int .u64 0]) W := zero_of (by kernel_rfl)

set_option maxRecDepth 100000 in
theorem sort_calls {R : Option Addr} {cr q2 q6 g n : Nat} {w0 w : World} {xs : List Int} {rows : List (List Int)} {LL : List Int → List Ch} (hR : Rd (kInt .i64).sl w0 R rows) (UU : ∀ x y, Upd (LL x) (Row (fInt .i64) 3 (.slice (some ⟨g, 0, none⟩) n n) x) (Row (fInt .i64) 3 (.slice (some ⟨g, 0, none⟩) n n) y) (LL y)) (U6 : ∀ x, Upd (LL x) (Blk q6 39 [.slice (some ⟨g, 0, none⟩) n n]) (Blk q6 39 [.slice (some ⟨g, 0, none⟩) n n]) (LL x)) (U2 : ∀ x, Upd (LL x) (Blk q2 23 [.slice R rows.length cr]) (Blk q2 23 [.slice R rows.length cr]) (LL x))
    (HH : Holds w0 (LL xs) w) (hn : n = xs.length) (hx : xs.length ≤ 1099511627776) (hrg : ∀ x ∈ xs, 0 ≤ x ∧ x < rows.length) (hasc : Asc xs 0 xs.length) (h2 : 2 ≤ n) :
    Calls Try.prog 56 #[.iface 39 (.slice (some ⟨g, 0, none⟩) n n), .func (.func 57) #[] #[.pointer (some ⟨q2, 0, none⟩), .pointer (some ⟨q6, 0, none⟩)]] w fun e w' => ∃ v, e = .returned v ∧ ∃ ys, v = .tuple #[] ∧ ys.Perm xs ∧ Sd (lnR rows) ys 0 n ∧ Holds w0 (LL ys) w' := by
  refine calls_of Try.func56 rfl Try.ntmps56 rfl ?_
  have H := HH
  refine wc_seq ?_
  refine wc_region ?_
  refine wl_v rfl rfl rfl (v_move rfl) ?_
  refine wl_ext (vs := [.iface 39 (.slice (some ⟨g, 0, none⟩) n n)]) rfl rfl (valueOf_run _) ?_
  have H1 := H.alloc 39 [.slice (some ⟨g, 0, none⟩) n n]
  generalize hbw : w.heap.size = b7 at H1 ⊢
  refine wl_alloc (cs := [.pointer none, .pointer none, .int .u64 0]) H1 rfl zv147 rfl ?_
  intro b4 w2 hb4 H3
  refine wl_store (vs := [_, _, _]) H3 (by repeat constructor) sz147 rfl rfl rfl rfl rfl (by repeat constructor) ?_
  intro w4 H5 hw4
  refine wl_nil ?_
  refine wc_seq ?_
  refine wc_region ?_
  refine wl_v rfl rfl rfl (v_move rfl) ?_
  obtain ⟨fs, sb, hsw, hsw2⟩ := swapper_run (A := some ⟨g, 0, none⟩) (n := n) (c := n) _
  obtain ⟨rfl, rfl⟩ := hsw2 h2
  refine wl_ext (vs := [.iface 39 (.slice (some ⟨g, 0, none⟩) n n)]) rfl rfl hsw ?_
  refine wl_v rfl rfl rfl (v_assign rfl) ?_
  refine wl_nil ?_
  refine wc_region ?_
  refine wl_v rfl rfl rfl (v_move rfl) ?_
  refine wl_v rfl rfl rfl (v_move rfl) ?_
  refine wl_v rfl rfl rfl (v_bld ba152 rfl (by repeat constructor)) ?_
  refine wl_v rfl rfl rfl (v_loadN agg147 rfl rfl (H5.ats (by repeat constructor))) ?_
  refine wl_ext (vs := [.agg #[typeHandle Try.prog 39, .pointer (some ⟨b7, 0, none⟩), .int .u64 151]]) rfl rfl (valueLen_run _ (H5.at (by repeat constructor) rfl)) ?_
  refine wl_call en73 rfl rfl (by have hq := stable_calls (q2 := q2) (q6 := q6) (LL := fun y => Blk b4 147 [typeHandle Try.prog 39, .pointer (some ⟨b7, 0, none⟩), .int .u64 151] :: Blk b7 39 [.slice (some ⟨g, 0, none⟩) n n] :: LL y) hR (fun x y => .there _ (.there _ (UU x y))) (fun x => .there _ (.there _ (U6 x))) (fun x => .there _ (.there _ (U2 x))) H5 hn hx hrg hasc; rw [← hn] at hq; exact hq) ?_
  rintro _ w8 ⟨ys, rfl, hp, hs, Hc⟩
  have H9 := Hc
  refine wl_nil ?_
  exact ⟨_, res0 rfl, _, rfl, hp, hs, H9.tail.tail⟩
end Go.Proofs.Ytkpehkadammppaa.SortS

/-! What table.free tells. -/
namespace Go.Proofs.Ytkpehkadammppaa.Free
open Go Go.RowKit Go.Proofs.YtkpehkadammppaaFx 
theorem one3 : One Try.prog 3 := one_of Try.underlying3 rfl (by kernel_rfl)
theorem sz3 : ∀ W, (sizeOf 3).run Try.prog W = .ok 1 W := size_of (by kernel_rfl)

def freeB (check row : List Int) (b : Int) : Bool := row.all fun k => !(decide (b + k < check.length) && decide (0 ≤ check.getD (b + k).toNat 0))

set_option maxRecDepth 100000 in
theorem free_calls {A B : Option Addr} {ca cb : Nat} {check row : List Int} {b : Int} {w : World} (hr : Rd (kInt .i64) w A check) (hq : Rd (kInt .i64) w B row) (hm : check.length ≤ maxLen) (hm2 : row.length ≤ maxLen) (hb : 0 ≤ b ∧ b ≤ 1152921504606846976) (hk : ∀ k ∈ row, 0 ≤ k ∧ k ≤ 1152921504606846976) :
    Calls Try.prog 58 #[.slice A check.length ca, .slice B row.length cb, .int .i64 b] w fun e w' => ∃ v, e = .returned v ∧ v = .bool (freeB check row b) ∧ Holds w [] w' := by
  unfold maxLen at hm hm2
  refine calls_of Try.func58 rfl Try.ntmps58 rfl ?_
  have H := Holds.start w
  refine wc_seq ?_
  refine wc_region ?_
  refine wl_v rfl rfl rfl (v_assign rfl) ?_
  refine wl_nil ?_
  refine wc_seq ?_
  refine wc_seq ?_
  refine wc_region ?_
  refine wl_v rfl rfl rfl (v_move rfl) ?_
  refine wl_v rfl rfl rfl (v_len Try.underlying39 rfl) ?_
  refine wl_v rfl rfl rfl (v_move rfl) ?_
  refine wl_nil ?_
  refine wc_block ?_
  refine wc_loop (σ := Nat) (fun s => [(0, .slice A check.length ca), (2, .int .i64 b), (9, .slice B row.length cb), (10, .int .i64 row.length), (11, .int .i64 s)]) (fun s W => s ≤ row.length ∧ (row.take s).all (fun k => !(decide (b + k < check.length) && decide (0 ≤ check.getD (b + k).toNat 0))) = true ∧ Holds w [] W) (fun s => row.length - s) 0 (sc rfl (sc rfl (sc rfl (sc rfl (sc rfl (sn _)))))) ⟨Nat.zero_le _, rfl, H⟩ ?_
  rintro i W0 ⟨hi, ha, H⟩
  refine wc_seq ?_
  refine wc_region ?_
  refine wl_v rfl rfl rfl (v_lss rfl rfl) ?_
  refine wl_nil ?_
  refine wc_seq ?_
  refine wc_cond rfl (fun c0 => ?_) (fun c0 => ?_)
  · have c0p := of_decide_eq_true c0
    have hin : i < row.length := by omega
    have hkk := hk (row.getD (i : Int).toNat 0) (getD_mem (by omega))
    refine wc_skip ?_
    refine wc_seq ?_
    refine wc_block ?_
    refine wc_seq ?_
    refine wc_region ?_
    refine wl_v rfl rfl rfl (v_idx Try.underlying39 sz3 hq.ad rfl rfl (by omega) (by omega)) ?_
    refine wl_v rfl rfl rfl (v_load one3 rfl (H.cell (hq.at1 (by omega) (by omega)))) ?_
    refine wl_v rfl rfl rfl (v_assign rfl) ?_
    refine wl_nil ?_
    refine wc_seq ?_
    refine wc_region ?_
    refine wl_v rfl rfl rfl (v_move rfl) ?_
    refine wl_v rfl rfl rfl (v_move rfl) ?_
    refine wl_v rfl rfl rfl (v_addi rfl rfl (by omega)) ?_
    refine wl_v rfl rfl rfl (v_move rfl) ?_
    refine wl_v rfl rfl rfl (v_len Try.underlying39 rfl) ?_
    refine wl_v rfl rfl rfl (v_lss rfl rfl) ?_
    refine wl_v rfl rfl rfl (v_move rfl) ?_
    refine wl_guard rfl rfl rfl (fun g21 => ?_) (fun g21 => ?_)
    · have g21p := of_decide_eq_true g21
      refine wl_v rfl rfl rfl (v_move rfl) ?_
      refine wl_on' rfl rfl g21 ?_
      refine wl_v rfl rfl rfl (v_move rfl) ?_
      refine wl_on' rfl rfl g21 ?_
      refine wl_v rfl rfl rfl (v_move rfl) ?_
      refine wl_on' rfl rfl g21 ?_
      refine wl_v rfl rfl rfl (v_addi rfl rfl (by omega)) ?_
      refine wl_on' rfl rfl g21 ?_
      refine wl_v rfl rfl rfl (v_idx Try.underlying39 sz3 hr.ad rfl rfl (by omega) (by omega)) ?_
      refine wl_on' rfl rfl g21 ?_
      refine wl_v rfl rfl rfl (v_load one3 rfl (H.cell (hr.at1 (by omega) (by omega)))) ?_
      refine wl_on' rfl rfl g21 ?_
      refine wl_v rfl rfl rfl (v_geq rfl rfl) ?_
      refine wl_v rfl rfl rfl (v_pick_t rfl g21 rfl) ?_
      refine wl_nil ?_
      refine wc_cond rfl (fun c1 => ?_) (fun c1 => ?_)
      · have c1p := of_decide_eq_true c1
        refine wc_seq ?_
        refine wc_region ?_
        refine wl_v rfl rfl rfl (v_assign rfl) ?_
        refine wl_nil ?_
        refine wc_ret ?_
        first
          | exact ⟨_, res1 rfl rfl, congrArg Value.bool (by unfold freeB; rw [take_all c0p] at ha; exact ha.symm), H⟩
          | exact ⟨_, res1 rfl rfl, congrArg Value.bool (by unfold freeB; symm; refine all_not 0 hin ?_; rw [← getD_nat]; simp only [Bool.not_eq_false', Bool.and_eq_true, decide_eq_true_eq]; omega), H⟩
      · have c1p := of_decide_eq_false c1
        refine wc_skip ?_
        refine wc_region ?_
        refine wl_v rfl rfl rfl (v_addi rfl rfl (by omega)) ?_
        refine wl_v rfl rfl rfl (v_move rfl) ?_
        refine wl_nil ?_
        exact ⟨i + 1, (sc rfl (sc rfl (sc rfl (sc rfl (sc rfl (sn _)))))), ⟨by omega, by rw [all_succ 0 hin, ha, ← getD_nat]; simp only [Bool.true_and, Bool.not_eq_true', Bool.and_eq_false_iff, decide_eq_false_iff_not]; omega, H⟩, by omega⟩
    · have g21p := of_decide_eq_false g21
      refine wl_off rfl rfl g21 rfl ?_
      refine wl_off rfl rfl g21 rfl ?_
      refine wl_off rfl rfl g21 rfl ?_
      refine wl_off rfl rfl g21 rfl ?_
      refine wl_off rfl rfl g21 rfl ?_
      refine wl_off rfl rfl g21 rfl ?_
      refine wl_v rfl rfl rfl (v_pick_f rfl g21 rfl) ?_
      refine wl_nil ?_
      refine wc_cond_f rfl ?_
      refine wc_skip ?_
      refine wc_region ?_
      refine wl_v rfl rfl rfl (v_addi rfl rfl (by omega)) ?_
      refine wl_v rfl rfl rfl (v_move rfl) ?_
      refine wl_nil ?_
      exact ⟨i + 1, (sc rfl (sc rfl (sc rfl (sc rfl (sc rfl (sn _)))))), ⟨by omega, by rw [all_succ 0 hin, ha, ← getD_nat]; simp only [Bool.true_and, Bool.not_eq_true', Bool.and_eq_false_iff, decide_eq_false_iff_not]; omega, H⟩, by omega⟩
  · have c0p := of_decide_eq_false c0
    refine wc_exit ?_
    refine wc_seq ?_
    refine wc_region ?_
    refine wl_v rfl rfl rfl (v_assign rfl) ?_
    refine wl_nil ?_
    refine wc_ret ?_
    first
      | exact ⟨_, res1 rfl rfl, congrArg Value.bool (by unfold freeB; rw [take_all c0p] at ha; exact ha.symm), H⟩
      | exact ⟨_, res1 rfl rfl, congrArg Value.bool (by unfold freeB; symm; refine all_not 0 hin ?_; rw [← getD_nat]; simp only [Bool.not_eq_false', Bool.and_eq_true, decide_eq_true_eq]; omega), H⟩
end Go.Proofs.Ytkpehkadammppaa.Free

/-! How rows are laid over one another. -/
namespace Go.Proofs.YtkpehkadammppaaFx
open Go Go.RowKit Go.Proofs.Ytkpehkadammppaa.Free
def padTo (c : List Int) (n : Nat) : List Int := c ++ List.replicate (n - c.length) (-1)
def putAt (c : List Int) (at_ s : Int) : List Int := (padTo c (at_.toNat + 1)).set at_.toNat s
def firstFree (c row : List Int) : Nat := ((List.range (c.length + 1)).find? fun (b : Nat) => freeB c row (b : Int)).getD c.length
theorem freeB_end {c row : List Int} {b : Int} (hb : (c.length : Int) ≤ b) (hk : ∀ k ∈ row, 0 ≤ k) : freeB c row b = true := by
  unfold freeB
  rw [List.all_eq_true]
  intro k hk'
  have := hk k hk'
  simp only [Bool.not_eq_true', Bool.and_eq_false_iff, decide_eq_false_iff_not]
  omega
theorem firstFree_is {c row : List Int} {b : Nat} (h : ∀ b', b' < b → freeB c row (b' : Int) = false) (hf : freeB c row (b : Int) = true) (hb : b ≤ c.length) : firstFree c row = b := by
  unfold firstFree
  have : (List.range (c.length + 1)).find? (fun (b : Nat) => freeB c row (b : Int)) = some b := by
    rw [List.find?_range_eq_some]
    exact ⟨hf, List.mem_range.2 (by omega), fun j hj => by simp [h j hj]⟩
  rw [this]
  rfl
theorem firstFree_le (c row : List Int) : firstFree c row ≤ c.length := by
  unfold firstFree
  cases h : (List.range (c.length + 1)).find? fun (b : Nat) => freeB c row (b : Int) with
  | none => exact Nat.le_refl _
  | some b =>
    have := List.mem_of_find?_eq_some h
    rw [List.mem_range] at this
    exact Nat.le_of_lt_succ this
abbrev LS := List Int × List Int
def putsN (c row : List Int) (b s : Int) (j : Nat) : List Int := (row.take j).foldl (fun c k => putAt c (b + k) s) c
def stepF (rows : List (List Int)) (st : LS) (s : Int) : LS :=
  (st.1.set s.toNat (firstFree st.2 (rows.getD s.toNat [])), putsN st.2 (rows.getD s.toNat []) (firstFree st.2 (rows.getD s.toNat [])) s (rows.getD s.toNat []).length)
def stN (rows : List (List Int)) (ord : List Int) (i : Nat) : LS := (ord.take i).foldl (stepF rows) (List.replicate rows.length 0, [])
def laidF (rows : List (List Int)) (ord : List Int) (least : Int) : LS := ((stN rows ord ord.length).1, padTo (stN rows ord ord.length).2 least.toNat)
theorem stN_succ {rows : List (List Int)} {ord : List Int} {i b : Nat} (h : i < ord.length) (hb : firstFree (stN rows ord i).2 (rows.getD (ord.getD i 0).toNat []) = b) :
    stN rows ord (i + 1) = ((stN rows ord i).1.set (ord.getD i 0).toNat b, putsN (stN rows ord i).2 (rows.getD (ord.getD i 0).toNat []) b (ord.getD i 0) (rows.getD (ord.getD i 0).toNat []).length) := by
  have e : stN rows ord (i + 1) = stepF rows (stN rows ord i) (ord.getD i 0) := by
    unfold stN
    rw [take_succ' 0 h, List.foldl_append]
    rfl
  rw [e, stepF, hb]
theorem stN_len (rows : List (List Int)) (ord : List Int) (i : Nat) : (stN rows ord i).1.length = rows.length := by
  unfold stN
  generalize ord.take i = l
  have : ∀ (l : List Int) (st : LS), (l.foldl (stepF rows) st).1.length = st.1.length := by
    intro l
    induction l with
    | nil => exact fun st => rfl
    | cons s r ih =>
      intro st
      rw [List.foldl_cons, ih]
      simp [stepF]
  rw [this, List.length_replicate]
theorem putsN_succ {c row : List Int} {b s : Int} {j : Nat} (h : j < row.length) : putsN c row b s (j + 1) = putAt (putsN c row b s j) (b + row.getD j 0) s := by
  unfold putsN
  rw [take_succ' 0 h, List.foldl_append]
  rfl
theorem take_done {row : List Int} {j : Nat} {c : List Int} {b s : Int} (h : ¬ ((j : Int) < row.length)) : putsN c row b s row.length = putsN c row b s j := by
  unfold putsN
  rw [take_all h, List.take_length]
/-- -1 put behind, q times. -/
def padN (C : List Int) : Nat → List Int
  | 0 => C
  | q + 1 => padN C q ++ [-1]
theorem padN_eq (C : List Int) : ∀ q, padN C q = C ++ List.replicate q (-1)
  | 0 => by simp [padN]
  | q + 1 => by rw [padN, padN_eq C q, List.append_assoc, ← List.replicate_succ']
theorem padN_len (C : List Int) (q : Nat) : (padN C q).length = C.length + q := by rw [padN_eq]; simp
theorem pad_is {C : List Int} {q n : Nat} (h : q = 0 ∨ C.length + q ≤ n) (h2 : n ≤ C.length + q) : padN C q = padTo C n := by
  rw [padN_eq]
  unfold padTo
  rw [show n - C.length = q by omega]
theorem len_set (xs : List Int) (i : Nat) (a : Int) : (xs.set i a).length = xs.length := List.length_set
theorem padTo_len (c : List Int) (n : Nat) : (padTo c n).length = max c.length n := by
  simp only [padTo, List.length_append, List.length_replicate]
  omega
theorem putAt_len (c : List Int) (a s : Int) : (putAt c a s).length = max c.length (a.toNat + 1) := by
  rw [putAt, List.length_set, padTo_len]
def iota (n : Nat) : List Int := (List.range n).map fun (j : Nat) => (j : Int)
def fillN (n s : Nat) : List Int := iota s ++ List.replicate (n - s) 0
theorem fillN_len {n s : Nat} (h : s ≤ n) : (fillN n s).length = n := by
  simp [fillN, iota]; omega
theorem fillN_next {n s : Nat} (h : s < n) : (fillN n s).set s (s : Int) = fillN n (s + 1) := by
  unfold fillN iota
  have hl : ((List.range s).map fun j : Nat => (j : Int)).length = s := by simp
  rw [List.set_append_right _ _ (by omega), hl, Nat.sub_self, show n - s = (n - (s + 1)) + 1 by omega, List.replicate_succ, List.set_cons_zero, List.range_succ, List.map_append, List.append_assoc]
  rfl
theorem fillN_all {n s : Nat} (h : s ≤ n) (h2 : ¬ ((s : Int) < n)) : fillN n s = iota n := by
  have : s = n := by omega
  subst this
  simp [fillN]
end Go.Proofs.YtkpehkadammppaaFx

/-! Packed tables as plain data; what they say of a state and a kind. -/
namespace Go.Proofs.YtkpehkadammppaaFx
open Go Go.RowKit
theorem wrap_cases {x : Int} (h1 : -9223372036854775808 ≤ x) (h2 : x < 18446744073709551616) : (x ≤ 9223372036854775807 ∧ IntKind.i64.wrap x = x) ∨ (9223372036854775807 < x ∧ IntKind.i64.wrap x = x - 18446744073709551616) := by
  have e1 : (2 ^ IntKind.i64.bits : Int) = 18446744073709551616 := rfl
  have e2 : (2 ^ (IntKind.i64.bits - 1) : Int) = 9223372036854775808 := rfl
  have e3 : IntKind.i64.signed = true := rfl
  unfold IntKind.wrap
  simp only [e1, e2, e3, Bool.true_and, decide_eq_true_eq]
  split <;> omega
/-- A packed table. -/
structure Pk where
  kinds : Int
  rules : Int
  dflt : List Mv
  base : List Int
  check : List Int
  cell : List Mv
  gbase : List Int
  gcheck : List Int
  gcell : List Int
  deriving DecidableEq
/-- Where its rows lie. -/
structure PkA where
  d : Option Addr
  b : Option Addr
  c : Option Addr
  e : Option Addr
  gb : Option Addr
  gc : Option Addr
  ge : Option Addr
  kd : Nat
  kb : Nat
  kc : Nat
  ke : Nat
  kgb : Nat
  kgc : Nat
  kge : Nat
abbrev Pk.cells (p : Pk) (a : PkA) : List Value := [.int .i64 p.kinds, .int .i64 p.rules, .slice a.d p.dflt.length a.kd, .slice a.b p.base.length a.kb, .slice a.c p.check.length a.kc, .slice a.e p.cell.length a.ke, .slice a.gb p.gbase.length a.kgb, .slice a.gc p.gcheck.length a.kgc, .slice a.ge p.gcell.length a.kge]
abbrev Pk.val (p : Pk) (a : PkA) : Value := .agg #[.int .i64 p.kinds, .int .i64 p.rules, .slice a.d p.dflt.length a.kd, .slice a.b p.base.length a.kb, .slice a.c p.check.length a.kc, .slice a.e p.cell.length a.ke, .slice a.gb p.gbase.length a.kgb, .slice a.gc p.gcheck.length a.kgc, .slice a.ge p.gcell.length a.kge]
structure Pk.rd (p : Pk) (w : World) (a : PkA) : Prop where
  d : Rd fMv.kn w a.d p.dflt
  b : Rd (kInt .i64) w a.b p.base
  c : Rd (kInt .i64) w a.c p.check
  e : Rd fMv.kn w a.e p.cell
  gb : Rd (kInt .i64) w a.gb p.gbase
  gc : Rd (kInt .i64) w a.gc p.gcheck
  ge : Rd (kInt .i64) w a.ge p.gcell
theorem Pk.rd.below {p : Pk} {w w' : World} {a : PkA} (h : p.rd w a) (hb : Below w.heap.size w w') : p.rd w' a := ⟨h.d.below hb, h.b.below hb, h.c.below hb, h.e.below hb, h.gb.below hb, h.gc.below hb, h.ge.below hb⟩
/-- Its numbers are numbers of int64, its rows of memory's length. -/
structure Pk.ok (p : Pk) : Prop where
  ik : I64 p.kinds
  ir : I64 p.rules
  d : p.dflt.length ≤ 1099511627776
  b : p.base.length ≤ 1099511627776
  c : p.check.length ≤ 1099511627776
  e : p.cell.length ≤ 1099511627776
  gb : p.gbase.length ≤ 1099511627776
  gc : p.gcheck.length ≤ 1099511627776
  ge : p.gcell.length ≤ 1099511627776
  ib : ∀ x ∈ p.base, I64 x
  igb : ∀ x ∈ p.gbase, I64 x
/-- Where a state's cell lies, or -1. -/
def cellF (base check : List Int) (cells s k : Int) : Int :=
  if s < base.length ∧ 0 ≤ base.getD s.toNat 0 + k ∧ base.getD s.toNat 0 + k < check.length ∧ base.getD s.toNat 0 + k < cells ∧ check.getD (base.getD s.toNat 0 + k).toNat 0 = s then base.getD s.toNat 0 + k else -1
def lookMv (p : Pk) (s k : Int) : Mv :=
  if s < 0 ∨ s ≥ p.dflt.length ∨ k < 0 ∨ k ≥ p.kinds then mv0 else if cellF p.base p.check p.cell.length s k < 0 then p.dflt.getD s.toNat mv0 else p.cell.getD (cellF p.base p.check p.cell.length s k).toNat mv0
def lookGo (p : Pk) (s r : Int) : Int :=
  if s < 0 ∨ s ≥ p.dflt.length ∨ r < 0 ∨ r ≥ p.rules then -1 else if cellF p.gbase p.gcheck p.gcell.length s r < 0 then -1 else p.gcell.getD (cellF p.gbase p.gcheck p.gcell.length s r).toNat 0
theorem cellF_lt {base check : List Int} {cells s k : Int} : cellF base check cells s k < cells ∨ cellF base check cells s k < 0 := by
  unfold cellF; split <;> omega
theorem cellF_no {base check : List Int} {cells s k : Int} (h : ¬ (s < base.length ∧ 0 ≤ base.getD s.toNat 0 + k ∧ base.getD s.toNat 0 + k < check.length ∧ base.getD s.toNat 0 + k < cells ∧ check.getD (base.getD s.toNat 0 + k).toNat 0 = s)) : cellF base check cells s k = -1 := if_neg h
theorem cellF_yes {base check : List Int} {cells s k : Int} (h : s < base.length ∧ 0 ≤ base.getD s.toNat 0 + k ∧ base.getD s.toNat 0 + k < check.length ∧ base.getD s.toNat 0 + k < cells ∧ check.getD (base.getD s.toNat 0 + k).toNat 0 = s) : cellF base check cells s k = base.getD s.toNat 0 + k := if_pos h
end Go.Proofs.YtkpehkadammppaaFx

/-! Tables packed: plain definitions. -/
namespace Go.Proofs.YtkpehkadammppaaFx
open Go Go.RowKit Go.Proofs.Ytkpehkadammppaa.Free
def keepM (row : List Mv) (k : Nat) : Bool := !decide (row.getD k mv0 = usualF row) && !decide ((row.getD k mv0).d = 0)
def keepG (row : List Int) (k : Nat) : Bool := decide (0 ≤ row.getD k 0)
def pkUpto (p : Nat → Bool) (j : Nat) : List Int := ((List.range j).filter p).map fun (k : Nat) => (k : Int)
theorem pkUpto_take {p : Nat → Bool} {j : Nat} (h : p j = true) : pkUpto p (j + 1) = pkUpto p j ++ [(j : Int)] := by
  simp [pkUpto, List.range_succ, h]
theorem pkUpto_skip {p : Nat → Bool} {j : Nat} (h : p j = false) : pkUpto p (j + 1) = pkUpto p j := by
  simp [pkUpto, List.range_succ, h]
theorem pkUpto_len (p : Nat → Bool) (j : Nat) : (pkUpto p j).length ≤ j := by
  unfold pkUpto
  rw [List.length_map]
  exact Nat.le_trans (List.length_filter_le _ _) (by simp)
theorem pkUpto_mem {p : Nat → Bool} {j : Nat} {k : Int} (h : k ∈ pkUpto p j) : 0 ≤ k ∧ k < j ∧ p k.toNat = true := by
  unfold pkUpto at h
  obtain ⟨a, ha, rfl⟩ := List.mem_map.1 h
  obtain ⟨h1, h2⟩ := List.mem_filter.1 ha
  rw [List.mem_range] at h1
  exact ⟨by omega, by omega, by simpa using h2⟩
def pkRow (row : List Mv) : List Int := pkUpto (keepM row) row.length
def goRow (row : List Int) : List Int := pkUpto (keepG row) row.length
/-- The order in which rows are laid, and that sort.SliceStable finds it. -/
structure SortOk (P : Program) (rows : List (List Int)) (ord : List Int) : Prop where
  len : ord.length = rows.length
  nd : ord.Nodup
  lt : ∀ x ∈ ord, 0 ≤ x ∧ x < rows.length
  run : ∀ (w W : World) (A A15 : Option Addr) (ca b2 b6 : Nat), Rd (kInt .i64).sl w A rows → Holds w [Row (fInt .i64) 3 (.slice A15 rows.length rows.length) (iota rows.length), Blk b6 39 [.slice A15 rows.length rows.length], Blk b2 23 [.slice A rows.length ca]] W →
      Calls P 56 #[.iface 39 (.slice A15 rows.length rows.length), .func (.func 57) #[] #[.pointer (some ⟨b2, 0, none⟩), .pointer (some ⟨b6, 0, none⟩)]] W fun e w' => ∃ v, e = .returned v ∧ v = .tuple #[] ∧ Holds w [Row (fInt .i64) 3 (.slice A15 rows.length rows.length) ord, Blk b6 39 [.slice A15 rows.length rows.length], Blk b2 23 [.slice A rows.length ca]] w'
theorem padTo_get (c : List Int) (n j : Nat) : (padTo c n).getD j (-1) = c.getD j (-1) := by
  unfold padTo
  rw [List.getD_eq_getElem?_getD, List.getD_eq_getElem?_getD]
  rcases Nat.lt_or_ge j c.length with h | h
  · rw [List.getElem?_append_left h]
  · rw [List.getElem?_append_right h, List.getElem?_eq_none h, List.getElem?_replicate]
    split <;> rfl
theorem putAt_get (c : List Int) (a s : Int) (j : Nat) : (putAt c a s).getD j (-1) = if j = a.toNat then s else c.getD j (-1) := by
  unfold putAt
  rw [List.getD_eq_getElem?_getD, List.getElem?_set]
  by_cases h : a.toNat = j
  · rw [if_pos h, if_pos h.symm, if_pos (by rw [padTo_len]; omega)]
    rfl
  · rw [if_neg h, if_neg (fun e => h e.symm), ← List.getD_eq_getElem?_getD, padTo_get]
theorem putsN_get (c row : List Int) (b s : Int) (j : Nat) : ∀ n, n ≤ row.length → (putsN c row b s n).getD j (-1) = c.getD j (-1) ∨ ((putsN c row b s n).getD j (-1) = s ∧ ∃ k ∈ row, (b + k).toNat = j)
  | 0, _ => .inl rfl
  | n + 1, h => by
    rw [putsN_succ (by omega), putAt_get]
    by_cases hj : j = (b + row.getD n 0).toNat
    · rw [if_pos hj]
      exact .inr ⟨rfl, row.getD n 0, getD_mem (by omega), hj.symm⟩
    · rw [if_neg hj]
      exact putsN_get c row b s j n (by omega)
theorem nd_take {ord : List Int} {i : Nat} (hn : ord.Nodup) (h : i < ord.length) : ord.getD i 0 ∉ ord.take i := by
  have h1 : (ord.take (i + 1)).Nodup := hn.sublist (List.take_sublist _ _)
  rw [take_succ' 0 h, List.nodup_append] at h1
  exact fun hm => h1.2.2 _ hm _ (List.mem_singleton.2 rfl) rfl
/-- Where a cell is taken, it is by a row that was laid there. -/
theorem laid_inv {rows : List (List Int)} {ord : List Int} (hn : ord.Nodup) (hlt : ∀ x ∈ ord, 0 ≤ x ∧ x < rows.length) (hk : ∀ r ∈ rows, ∀ k ∈ r, 0 ≤ k) : ∀ i, i ≤ ord.length → ∀ j, 0 ≤ (stN rows ord i).2.getD j (-1) →
    (stN rows ord i).2.getD j (-1) ∈ ord.take i ∧ ∃ k ∈ rows.getD ((stN rows ord i).2.getD j (-1)).toNat [], (stN rows ord i).1.getD ((stN rows ord i).2.getD j (-1)).toNat 0 + k = j
  | 0, _, j, h => by simp [stN] at h
  | i + 1, hi, j, h => by
    have hS := hlt _ (getD_mem (z := 0) (show i < ord.length by omega))
    have hbl := stN_len rows ord i
    rw [stN_succ (by omega) rfl] at h ⊢
    rw [take_succ' 0 (by omega)]
    dsimp only at h ⊢
    rcases putsN_get (stN rows ord i).2 (rows.getD (ord.getD i 0).toNat []) (firstFree (stN rows ord i).2 (rows.getD (ord.getD i 0).toNat [])) (ord.getD i 0) j _ (Nat.le_refl _) with h1 | ⟨h1, k, hkm, hkj⟩
    · rw [h1] at h ⊢
      obtain ⟨h2, h3⟩ := laid_inv hn hlt hk i (by omega) j h
      refine ⟨List.mem_append_left _ h2, ?_⟩
      have hne : (ord.getD i 0).toNat ≠ ((stN rows ord i).2.getD j (-1)).toNat := fun e => nd_take (i := i) hn (by omega) (by
        have : ord.getD i 0 = (stN rows ord i).2.getD j (-1) := by omega
        rw [this]
        exact h2)
      rw [List.getD_eq_getElem?_getD (l := List.set _ _ _), List.getElem?_set_ne hne, ← List.getD_eq_getElem?_getD]
      exact h3
    · rw [h1]
      refine ⟨List.mem_append_right _ (List.mem_singleton.2 rfl), k, hkm, ?_⟩
      have hk0 := hk _ (getD_mem (z := []) (show (ord.getD i 0).toNat < rows.length by omega)) k hkm
      rw [List.getD_eq_getElem?_getD (l := List.set _ _ _), List.getElem?_set_self (by omega)]
      show (firstFree (stN rows ord i).2 (rows.getD (ord.getD i 0).toNat []) : Int) + k = j
      omega
theorem laid_at {rows : List (List Int)} {ord : List Int} {least : Int} (hn : ord.Nodup) (hlt : ∀ x ∈ ord, 0 ≤ x ∧ x < rows.length) (hk : ∀ r ∈ rows, ∀ k ∈ r, 0 ≤ k) {j : Nat} (h : 0 ≤ (laidF rows ord least).2.getD j (-1)) :
    (laidF rows ord least).2.getD j (-1) < rows.length ∧ ∃ k ∈ rows.getD ((laidF rows ord least).2.getD j (-1)).toNat [], (laidF rows ord least).1.getD ((laidF rows ord least).2.getD j (-1)).toNat 0 + k = j := by
  unfold laidF at *
  dsimp only at h ⊢
  rw [padTo_get] at h ⊢
  obtain ⟨h1, h2⟩ := laid_inv hn hlt hk _ (Nat.le_refl _) j h
  exact ⟨(hlt _ (List.mem_of_mem_take h1)).2, h2⟩
theorem putsN_len {c row : List Int} {b M : Nat} {s : Int} (hM : ∀ k ∈ row, 0 ≤ k ∧ k < M) (hb : b ≤ c.length) : ∀ j, j ≤ row.length → (putsN c row b s j).length ≤ c.length + M
  | 0, _ => Nat.le_add_right _ _
  | j + 1, h => by
    have h1 := putsN_len (s := s) hM hb j (by omega)
    have h2 := hM _ (getD_mem (z := 0) (show j < row.length by omega))
    rw [putsN_succ (by omega), putAt_len]
    omega
theorem stN_chk {rows : List (List Int)} {ord : List Int} {M : Nat} (hlt : ∀ x ∈ ord, 0 ≤ x ∧ x < rows.length) (hM : ∀ r ∈ rows, ∀ k ∈ r, 0 ≤ k ∧ k < M) : ∀ i, i ≤ ord.length → (stN rows ord i).2.length ≤ i * M
  | 0, _ => Nat.zero_le _
  | i + 1, h => by
    have h1 := stN_chk hlt hM i (by omega)
    have hS := hlt _ (getD_mem (z := 0) (show i < ord.length by omega))
    rw [stN_succ (by omega) rfl]
    dsimp only
    have h2 := putsN_len (s := ord.getD i 0) (hM _ (getD_mem (z := []) (show (ord.getD i 0).toNat < rows.length by omega))) (firstFree_le (stN rows ord i).2 (rows.getD (ord.getD i 0).toNat [])) _ (Nat.le_refl _)
    rw [Nat.succ_mul]
    omega
theorem laidF_len {rows : List (List Int)} {ord : List Int} {M : Nat} {least : Int} (hlt : ∀ x ∈ ord, 0 ≤ x ∧ x < rows.length) (hol : ord.length = rows.length) (hM : ∀ r ∈ rows, ∀ k ∈ r, 0 ≤ k ∧ k < M) : (laidF rows ord least).2.length ≤ max (rows.length * M) least.toNat := by
  have h := stN_chk hlt hM _ (Nat.le_refl _)
  rw [hol] at h
  show (padTo (stN rows ord ord.length).2 least.toNat).length ≤ _
  rw [padTo_len, hol]
  omega
/-- A packed row's cells. -/
def cellsUpto {α : Type} (z : α) (check base : List Int) (rows : List (List α)) (j : Nat) : List α := ((List.range j).map fun i => if 0 ≤ check.getD i (-1) then (rows.getD (check.getD i (-1)).toNat []).getD ((i : Int) - base.getD (check.getD i (-1)).toNat 0).toNat z else z) ++ List.replicate (check.length - j) z
theorem cellsUpto_len {α : Type} {z : α} {check base : List Int} {rows : List (List α)} {j : Nat} (h : j ≤ check.length) : (cellsUpto z check base rows j).length = check.length := by
  simp only [cellsUpto, List.length_append, List.length_map, List.length_range, List.length_replicate]; omega
theorem cellsUpto_next {α : Type} {z : α} {check base : List Int} {rows : List (List α)} {j : Nat} (h : j < check.length) : cellsUpto z check base rows (j + 1) = (cellsUpto z check base rows j).set j (if 0 ≤ check.getD j (-1) then (rows.getD (check.getD j (-1)).toNat []).getD ((j : Int) - base.getD (check.getD j (-1)).toNat 0).toNat z else z) := by
  unfold cellsUpto
  rw [List.set_append_right _ _ (by simp), List.length_map, List.length_range, Nat.sub_self, show check.length - j = (check.length - (j + 1)) + 1 by omega, List.replicate_succ, List.set_cons_zero, List.range_succ, List.map_append, List.append_assoc]
  rfl
theorem cellsUpto_skip {α : Type} {z : α} {check base : List Int} {rows : List (List α)} {j : Nat} (h : j < check.length) (hn : ¬ 0 ≤ check.getD j (-1)) : cellsUpto z check base rows (j + 1) = cellsUpto z check base rows j := by
  unfold cellsUpto
  rw [show check.length - j = (check.length - (j + 1)) + 1 by omega, List.replicate_succ, List.range_succ, List.map_append, List.append_assoc]
  congr 1
  simp only [List.map_cons, List.map_nil, if_neg hn]
  rfl
/-- The packed table. -/
def packF (t : Tb) (k r : Int) (om og : List Int) : Pk :=
  let a := laidF (t.mv.map pkRow) om k
  let g := laidF (t.go.map goRow) og r
  ⟨k, r, t.mv.map usualF, a.1, a.2, cellsUpto mv0 a.2 a.1 t.mv a.2.length, g.1, g.2, cellsUpto 0 g.2 g.1 t.go g.2.length⟩
def pk0 : Pk := ⟨0, 0, [], [], [], [], [], [], []⟩
/-- A packed table of the call's own. -/
def OwnP (a : PkA) (p : Pk) : List Ch := [Row fMv 48 (.slice a.d p.dflt.length a.kd) p.dflt, Row (fInt .i64) 3 (.slice a.b p.base.length a.kb) p.base, Row (fInt .i64) 3 (.slice a.c p.check.length a.kc) p.check, Row fMv 48 (.slice a.e p.cell.length a.ke) p.cell, Row (fInt .i64) 3 (.slice a.gb p.gbase.length a.kgb) p.gbase, Row (fInt .i64) 3 (.slice a.gc p.gcheck.length a.kgc) p.gcheck, Row (fInt .i64) 3 (.slice a.ge p.gcell.length a.kge) p.gcell]
noncomputable def pkAns (t : Tb) (k r p : Int) (om og : List Int) : Pk := if checkF t k r p = 0 then packF t k r om og else pk0
theorem checkF_zero {t : Tb} {k r p : Int} (h : checkF t k r p = 0) : ¬ (k < 2 ∨ r < 0 ∨ p < 0) ∧ TGood t k r p := by
  unfold checkF at h
  split at h
  · omega
  · rename_i h1
    split at h
    · rename_i h2
      exact ⟨of_ndec (by simpa using h1), of_dec h2⟩
    · omega
theorem getD_irrel {α : Type} {xs : List α} {i : Nat} (h : i < xs.length) (a b : α) : xs.getD i a = xs.getD i b := by
  rw [List.getD_eq_getElem?_getD, List.getD_eq_getElem?_getD, List.getElem?_eq_getElem h]
  rfl
theorem getD_map' {α β : Type} {xs : List α} {i : Nat} (g : α → β) (z : α) (z' : β) (h : i < xs.length) : (xs.map g).getD i z' = g (xs.getD i z) := by
  rw [List.getD_eq_getElem?_getD, List.getD_eq_getElem?_getD, List.getElem?_map, List.getElem?_eq_getElem h]
  rfl
theorem mem_at {α : Type} {xs : List α} {x : α} (z : α) (h : x ∈ xs) : ∃ j, j < xs.length ∧ xs.getD j z = x := by
  obtain ⟨j, hj, he⟩ := List.mem_iff_getElem.1 h
  exact ⟨j, hj, by rw [List.getD_eq_getElem?_getD, List.getElem?_eq_getElem hj]; exact he⟩
theorem pm_ok {t : Tb} {k r p : Int} (h : TGood t k r p) : ∀ x ∈ t.mv.map pkRow, (∀ y ∈ x, 0 ≤ y ∧ y < k.toNat) ∧ x.length ≤ k.toNat := fun x hx => by
  obtain ⟨row, hr, rfl⟩ := List.mem_map.1 hx
  obtain ⟨j, hj, rfl⟩ := mem_at [] hr
  have := (h.2.2.2 j hj).1
  exact ⟨fun y hy => by have := pkUpto_mem hy; omega, by have := pkUpto_len (keepM (t.mv.getD j [])) (t.mv.getD j []).length; unfold pkRow; omega⟩
theorem gm_ok {t : Tb} {k r p : Int} (h : TGood t k r p) : ∀ x ∈ t.go.map goRow, (∀ y ∈ x, 0 ≤ y ∧ y < r.toNat) ∧ x.length ≤ r.toNat := fun x hx => by
  obtain ⟨row, hr, rfl⟩ := List.mem_map.1 hx
  obtain ⟨j, hj, rfl⟩ := mem_at [] hr
  have := (h.2.2.2 j (by have := h.2.2.1; omega)).2.1
  exact ⟨fun y hy => by have := pkUpto_mem hy; omega, by have := pkUpto_len (keepG (t.go.getD j [])) (t.go.getD j []).length; unfold goRow; omega⟩
theorem cellsUpto_zero {α : Type} (z : α) (check base : List Int) (rows : List (List α)) : cellsUpto z check base rows 0 = List.replicate check.length z := rfl
theorem Holds.rrR {α : Type} {f : Fk α} {W0 w : World} {L : List Ch} {e e2 n c : Nat} {A : Option Addr} {xss : List (List α)} (H : Holds W0 L w) (U : Upd L (RR f e e2 (.slice A n c) xss) (RR f e e2 (.slice A n c) xss) L) : Rd f.kn.sl w A xss := by
  obtain ⟨A', c', h, _, _, _, hr⟩ := H.rr U
  injection h with h1 h2 h3
  subst h1
  exact hr
/-- Where a taken cell's row and column are. -/
theorem laid_cell {rows : List (List Int)} {ord : List Int} {least : Int} {α : Type} {src : List (List α)} {p : List α → Nat → Bool} {P : Program} (so : SortOk P rows ord) (hr : rows = src.map fun x => pkUpto (p x) x.length) {j : Nat} (hj : j < (laidF rows ord least).2.length) (h : 0 ≤ (laidF rows ord least).2.getD j 0) :
    (laidF rows ord least).2.getD j 0 < src.length ∧ 0 ≤ (j : Int) - (laidF rows ord least).1.getD ((laidF rows ord least).2.getD j 0).toNat 0 ∧ (j : Int) - (laidF rows ord least).1.getD ((laidF rows ord least).2.getD j 0).toNat 0 < (src.getD ((laidF rows ord least).2.getD j 0).toNat []).length := by
  rw [getD_irrel hj 0 (-1)] at h ⊢
  obtain ⟨h1, k, hk, hb⟩ := laid_at so.nd so.lt (fun x hx y hy => by
    subst hr
    obtain ⟨row, _, rfl⟩ := List.mem_map.1 hx
    exact (pkUpto_mem hy).1) h
  have hl : rows.length = src.length := by rw [hr, List.length_map]
  have hlt : ((laidF rows ord least).2.getD j (-1)).toNat < src.length := by omega
  have e : rows.getD ((laidF rows ord least).2.getD j (-1)).toNat [] = pkUpto (p (src.getD ((laidF rows ord least).2.getD j (-1)).toNat [])) (src.getD ((laidF rows ord least).2.getD j (-1)).toNat []).length := by
    generalize ((laidF rows ord least).2.getD j (-1)).toNat = q at hlt ⊢
    rw [hr, getD_map' _ [] [] hlt]
  rw [e] at hk
  have := pkUpto_mem hk
  omega
theorem laidF_len1 (rows : List (List Int)) (ord : List Int) (least : Int) : (laidF rows ord least).1.length = rows.length := stN_len rows ord ord.length
end Go.Proofs.YtkpehkadammppaaFx
