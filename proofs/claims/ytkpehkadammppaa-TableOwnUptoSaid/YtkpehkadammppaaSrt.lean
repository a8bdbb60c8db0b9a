/- What exchanges of places do. -/
import Derived.Test.YtkpehkadammppaaSw
set_option linter.unusedVariables false
namespace Go.Proofs.YtkpehkadammppaaFx
open Go
theorem swp_len (xs : List Int) (i j : Nat) : (swp xs i j).length = xs.length := by simp [swp]
theorem swp_get {xs : List Int} {i j : Nat} (hi : i < xs.length) (hj : j < xs.length) (q : Nat) : (swp xs i j).getD q 0 = if q = j then xs.getD i 0 else if q = i then xs.getD j 0 else xs.getD q 0 := by
  unfold swp
  rw [List.getD_eq_getElem?_getD, List.getElem?_set]
  by_cases h1 : j = q
  · rw [if_pos h1, if_pos h1.symm, if_pos (by rw [List.length_set]; exact hj)]
    rfl
  · rw [if_neg h1, if_neg (fun e => h1 e.symm), List.getElem?_set]
    by_cases h2 : i = q
    · rw [if_pos h2, if_pos h2.symm, if_pos hi]
      rfl
    · rw [if_neg h2, if_neg (fun e => h2 e.symm), ← List.getD_eq_getElem?_getD]
theorem swp_perm {xs : List Int} {i j : Nat} (hi : i < xs.length) (hj : j < xs.length) : (swp xs i j).Perm xs := by
  have e1 : xs.getD j 0 = xs[j] := by rw [List.getD_eq_getElem?_getD, List.getElem?_eq_getElem hj]; rfl
  have e2 : xs.getD i 0 = xs[i] := by rw [List.getD_eq_getElem?_getD, List.getElem?_eq_getElem hi]; rfl
  rw [swp, e1, e2]
  exact List.set_set_perm hi hj
def swR (xs : List Int) (a b : Nat) : Nat → List Int
  | 0 => xs
  | m + 1 => swp (swR xs a b m) (a + m) (b + m)
theorem swR_len (xs : List Int) (a b : Nat) : ∀ m, (swR xs a b m).length = xs.length
  | 0 => rfl
  | m + 1 => by rw [swR, swp_len, swR_len xs a b m]
theorem swR_perm {xs : List Int} {a b : Nat} : ∀ m, a + m ≤ xs.length → b + m ≤ xs.length → (swR xs a b m).Perm xs
  | 0, _, _ => .refl _
  | m + 1, h1, h2 => (swp_perm (by rw [swR_len]; omega) (by rw [swR_len]; omega)).trans (swR_perm m (by omega) (by omega))
theorem swR_get {xs : List Int} {a b : Nat} : ∀ m, a + m ≤ b → b + m ≤ xs.length → ∀ q, (swR xs a b m).getD q 0 = if a ≤ q ∧ q < a + m then xs.getD (q - a + b) 0 else if b ≤ q ∧ q < b + m then xs.getD (q - b + a) 0 else xs.getD q 0
  | 0, _, _, q => by rw [if_neg (by omega), if_neg (by omega)]; rfl
  | m + 1, h1, h2, q => by
    rw [swR, swp_get (by rw [swR_len]; omega) (by rw [swR_len]; omega)]
    by_cases e1 : q = b + m
    · subst e1
      rw [if_pos rfl, swR_get m (by omega) (by omega), if_neg (by omega), if_neg (by omega), if_neg (by omega), if_pos (by omega)]
      congr 1
      omega
    · rw [if_neg e1]
      by_cases e2 : q = a + m
      · subst e2
        rw [if_pos rfl, swR_get m (by omega) (by omega), if_neg (by omega), if_neg (by omega), if_pos (by omega)]
        congr 1
        omega
      · rw [if_neg e2, swR_get m (by omega) (by omega)]
        by_cases c1 : a ≤ q ∧ q < a + m
        · rw [if_pos c1, if_pos (by omega)]
        · rw [if_neg c1]
          by_cases c2 : b ≤ q ∧ q < b + m
          · rw [if_pos c2, if_neg (by omega), if_pos (by omega)]
          · rw [if_neg c2, if_neg (by omega), if_neg (by omega)]
/-- ys is xs, its stretch [a, m) behind its stretch [m, b). -/
structure IsRot (xs ys : List Int) (a m b : Nat) : Prop where
  perm : ys.Perm xs
  get : ∀ q, ys.getD q 0 = if a ≤ q ∧ q < a + (b - m) then xs.getD (q - a + m) 0 else if a + (b - m) ≤ q ∧ q < b then xs.getD (q - (b - m)) 0 else xs.getD q 0
theorem rotA {ys zs : List Int} {i j m : Nat} (hij : j < i) (him : i ≤ m) (hl : m + j ≤ ys.length) (h : IsRot (swR ys (m - i) m j) zs (m - i + j) m (m + j)) : IsRot ys zs (m - i) m (m + j) :=
  ⟨h.perm.trans (swR_perm j (by omega) (by omega)), fun q => by
    rw [h.get q]
    simp only [swR_get j (show m - i + j ≤ m by omega) hl]
    repeat' split
    all_goals first | (exfalso; omega) | (congr 1 <;> omega)⟩
theorem rotB {ys zs : List Int} {i j m : Nat} (hij : i < j) (him : i ≤ m) (hl : m + j ≤ ys.length) (h : IsRot (swR ys (m - i) (m + j - i) i) zs (m - i) m (m + (j - i))) : IsRot ys zs (m - i) m (m + j) :=
  ⟨h.perm.trans (swR_perm i (by omega) (by omega)), fun q => by
    rw [h.get q]
    simp only [swR_get i (show m - i + i ≤ m + j - i by omega) (show m + j - i + i ≤ ys.length by omega)]
    repeat' split
    all_goals first | (exfalso; omega) | (congr 1 <;> omega)⟩
theorem rotE {ys : List Int} {i m : Nat} (him : i ≤ m) (hl : m + i ≤ ys.length) : IsRot ys (swR ys (m - i) m i) (m - i) m (m + i) :=
  ⟨swR_perm i (by omega) (by omega), fun q => by
    rw [swR_get i (by omega) hl]
    repeat' split
    all_goals first | (exfalso; omega) | (congr 1 <;> omega)⟩
end Go.Proofs.YtkpehkadammppaaFx
/-! What sorting by places does: insertion. -/
namespace Go.Proofs.YtkpehkadammppaaFx
open Go
/-- The order: the longer first; of equals, the smaller number. -/
def Lt' (ln : Int → Nat) (x y : Int) : Prop := ln y < ln x ∨ (ln x = ln y ∧ x < y)
theorem Lt'.trans {ln : Int → Nat} {x y z : Int} (h1 : Lt' ln x y) (h2 : Lt' ln y z) : Lt' ln x z := by
  unfold Lt' at *
  omega
abbrev at0 (xs : List Int) (p : Nat) : Int := xs.getD p 0
def Sd (ln : Int → Nat) (xs : List Int) (a b : Nat) : Prop := ∀ p q, a ≤ p → p < q → q < b → Lt' ln (at0 xs p) (at0 xs q)
def Asc (xs : List Int) (a b : Nat) : Prop := ∀ p q, a ≤ p → p < q → q < b → at0 xs p < at0 xs q
/-- On [a, b) ys holds values of xs alone. -/
def Keep (xs ys : List Int) (a b : Nat) : Prop := ∀ P : Int → Prop, (∀ q, a ≤ q → q < b → P (at0 xs q)) → ∀ q, a ≤ q → q < b → P (at0 ys q)
theorem Keep.refl (xs : List Int) (a b : Nat) : Keep xs xs a b := fun _ h => h
theorem Keep.trans {xs ys zs : List Int} {a b : Nat} (h1 : Keep xs ys a b) (h2 : Keep ys zs a b) : Keep xs zs a b := fun P h => h2 P (h1 P h)
theorem Keep.sw {xs : List Int} {a b i j : Nat} (hi : i < xs.length) (hj : j < xs.length) (h1 : a ≤ i ∧ i < b) (h2 : a ≤ j ∧ j < b) : Keep xs (swp xs i j) a b := fun P h q hq1 hq2 => by
  show P ((swp xs i j).getD q 0)
  rw [swp_get hi hj]
  split
  · exact h i h1.1 h1.2
  · split
    · exact h j h2.1 h2.2
    · exact h q hq1 hq2
/-- The element at j moves down. -/
structure Ins (ln : Int → Nat) (xs ys : List Int) (a i j : Nat) : Prop where
  perm : ys.Perm xs
  out : ∀ q, q < a ∨ i < q → at0 ys q = at0 xs q
  lo : a ≤ j
  hi : j ≤ i
  pairs : ∀ p q, a ≤ p → p < q → q ≤ i → p ≠ j → q ≠ j → Lt' ln (at0 ys p) (at0 ys q)
  up : ∀ q, j < q → q ≤ i → Lt' ln (at0 ys j) (at0 ys q)
  idx : ∀ q, a ≤ q → q ≤ i → q ≠ j → at0 ys q < at0 ys j
  keep : Keep xs ys a (i + 1)
theorem Ins.step {ln : Int → Nat} {xs ys : List Int} {a i j : Nat} (h : Ins ln xs ys a i j) (hl : i < ys.length) (hj : a < j) (hlt : ln (at0 ys (j - 1)) < ln (at0 ys j)) : Ins ln xs (swp ys j (j - 1)) a i (j - 1) := by
  have hji := h.hi
  have g : ∀ q, at0 (swp ys j (j - 1)) q = if q = j - 1 then at0 ys j else if q = j then at0 ys (j - 1) else at0 ys q := fun q => swp_get (by omega) (by omega) q
  have g1 : at0 (swp ys j (j - 1)) (j - 1) = at0 ys j := by rw [g, if_pos rfl]
  have g2 : at0 (swp ys j (j - 1)) j = at0 ys (j - 1) := by rw [g, if_neg (by omega), if_pos rfl]
  have g3 : ∀ q, q ≠ j → q ≠ j - 1 → at0 (swp ys j (j - 1)) q = at0 ys q := fun q h1 h2 => by rw [g, if_neg h2, if_neg h1]
  refine ⟨(swp_perm (by omega) (by omega)).trans h.perm, fun q hq => by rw [g3 q (by omega) (by omega)]; exact h.out q hq, by omega, by omega, fun p q h1 h2 h3 h4 h5 => ?_, fun q h1 h2 => ?_, fun q h1 h2 h3 => ?_, h.keep.trans (Keep.sw (by omega) (by omega) (by omega) (by omega))⟩
  · rcases Nat.decEq p j with hp | hp
    · rcases Nat.decEq q j with hq | hq
      · rw [g3 p hp h4, g3 q hq h5]
        exact h.pairs p q h1 h2 h3 hp hq
      · subst hq
        rw [g3 p hp h4, g2]
        exact h.pairs p (q - 1) h1 (by omega) (by omega) hp (by omega)
    · subst hp
      rw [g2, g3 q (by omega) h5]
      exact h.pairs (p - 1) q (by omega) (by omega) h3 (by omega) (by omega)
  · rw [g1]
    rcases Nat.decEq q j with hq | hq
    · rw [g3 q hq (by omega)]
      exact h.up q (by omega) h2
    · subst hq
      rw [g2]
      exact .inl hlt
  · rw [g1]
    rcases Nat.decEq q j with hq | hq
    · rw [g3 q hq h3]
      exact h.idx q h1 h2 hq
    · subst hq
      rw [g2]
      exact h.idx (q - 1) (by omega) (by omega) (by omega)
theorem Ins.done {ln : Int → Nat} {xs ys : List Int} {a i j : Nat} (h : Ins ln xs ys a i j) (hs : j = a ∨ ¬ ln (at0 ys (j - 1)) < ln (at0 ys j)) : Sd ln ys a (i + 1) := fun p q h1 h2 h3 => by
  have hji := h.hi
  have hja := h.lo
  rcases Nat.decEq p j with hp | hp
  · rcases Nat.decEq q j with hq | hq
    · exact h.pairs p q h1 h2 (by omega) hp hq
    · subst hq
      have hs' := hs.resolve_left (by omega)
      have h4 := h.idx (q - 1) (by omega) (by omega) (by omega)
      have h5 : Lt' ln (at0 ys (q - 1)) (at0 ys q) := by unfold Lt'; omega
      rcases Nat.decEq p (q - 1) with hp2 | hp2
      · exact (h.pairs p (q - 1) h1 (by omega) (by omega) hp (by omega)).trans h5
      · rw [hp2]; exact h5
  · subst hp
    exact h.up q h2 (by omega)
theorem Ins.start {ln : Int → Nat} {xs : List Int} {a i : Nat} (hs : Sd ln xs a i) (ha : a ≤ i) (hx : ∀ q, a ≤ q → q < i → at0 xs q < at0 xs i) : Ins ln xs xs a i i :=
  ⟨.refl _, fun _ _ => rfl, ha, Nat.le_refl _, fun p q h1 h2 h3 h4 h5 => hs p q h1 h2 (by omega), fun q h1 h2 => by omega, fun q h1 h2 h3 => hx q h1 (by omega), Keep.refl _ _ _⟩
/-- ys is xs, sorted on [a, b). -/
structure Srtd (ln : Int → Nat) (xs ys : List Int) (a b : Nat) : Prop where
  perm : ys.Perm xs
  out : ∀ q, q < a ∨ b ≤ q → at0 ys q = at0 xs q
  sd : Sd ln ys a b
  keep : Keep xs ys a b
theorem Srtd.one (ln : Int → Nat) (xs : List Int) {a b : Nat} (h : b ≤ a + 1) : Srtd ln xs xs a b := ⟨.refl _, fun _ _ => rfl, fun p q h1 h2 h3 => by omega, Keep.refl _ _ _⟩
theorem Srtd.ins {ln : Int → Nat} {xs ys : List Int} {a i b : Nat} (h : Srtd ln xs ys a i) (hai : a ≤ i) (hi : i < b) (hasc : Asc xs a b) : Ins ln ys ys a i i :=
  Ins.start h.sd hai fun q h1 h2 => by
    rw [h.out i (.inr (Nat.le_refl _))]
    exact h.keep (fun z => z < at0 xs i) (fun q h1 h2 => hasc q i h1 h2 hi) q h1 h2
theorem Srtd.next {ln : Int → Nat} {xs ys zs : List Int} {a i j : Nat} (h : Srtd ln xs ys a i) (hi : Ins ln ys zs a i j) (hs : j = a ∨ ¬ ln (at0 zs (j - 1)) < ln (at0 zs j)) : Srtd ln xs zs a (i + 1) :=
  ⟨hi.perm.trans h.perm, fun q hq => by rw [hi.out q (by omega), h.out q (by omega)], hi.done hs, Keep.trans (fun P hP q h1 h2 => by
    rcases Nat.decEq q i with hq | hq
    · exact h.keep P (fun q h1 h2 => hP q h1 (by omega)) q h1 (by omega)
    · subst hq
      rw [h.out q (.inr (Nat.le_refl _))]
      exact hP q h1 h2) hi.keep⟩
def lnR (rows : List (List Int)) (x : Int) : Nat := (rows.getD x.toNat []).length
end Go.Proofs.YtkpehkadammppaaFx
/-! What sorting by places does: merging. -/
namespace Go.Proofs.YtkpehkadammppaaFx
open Go
/-- Two stretches to be merged. -/
structure Two (ln : Int → Nat) (xs : List Int) (a m b : Nat) : Prop where
  l : Sd ln xs a m
  r : Sd ln xs m b
  lt : ∀ p q, a ≤ p → p < m → m ≤ q → q < b → at0 xs p < at0 xs q
/-- The halves are sorted apart, and all of the one comes before all of the other. -/
theorem Sd.glue {ln : Int → Nat} {xs : List Int} {a m b : Nat} (h1 : Sd ln xs a m) (h2 : Sd ln xs m b) (h : ∀ p q, a ≤ p → p < m → m ≤ q → q < b → Lt' ln (at0 xs p) (at0 xs q)) : Sd ln xs a b := fun p q e1 e2 e3 => by
  rcases Nat.lt_or_ge q m with hq | hq
  · exact h1 p q e1 e2 hq
  · rcases Nat.lt_or_ge p m with hp | hp
    · exact h p q e1 hp hq e3
    · exact h2 p q hp e2 e3
/-- Two values that keep to their stretches keep what is so of all pairs. -/
theorem Keep.pairs {xs ys : List Int} {a m b : Nat} {R : Int → Int → Prop} (h1 : Keep xs ys a m) (h2 : Keep xs ys m b) (h : ∀ p q, a ≤ p → p < m → m ≤ q → q < b → R (at0 xs p) (at0 xs q)) : ∀ p q, a ≤ p → p < m → m ≤ q → q < b → R (at0 ys p) (at0 ys q) := fun p q e1 e2 e3 e4 =>
  h1 (fun x => R x (at0 ys q)) (fun p e1 e2 => h2 (fun y => R (at0 xs p) y) (fun q e3 e4 => h p q e1 e2 e3 e4) q e3 e4) p e1 e2
theorem Keep.out {xs ys : List Int} {a b : Nat} (h : ∀ q, a ≤ q → q < b → at0 ys q = at0 xs q) : Keep xs ys a b := fun P hP q e1 e2 => by rw [h q e1 e2]; exact hP q e1 e2
/-- Behind the rotation: two pairs of stretches, all of the first before all of the second. -/
theorem rot_two {ln : Int → Nat} {xs ys : List Int} {a s m e b d : Nat} (h : Two ln xs a m b) (hr : IsRot xs ys s m e) (h1 : a ≤ s) (h2 : s ≤ m) (h3 : m ≤ e) (h4 : e ≤ b) (hd : d = s + (e - m))
    (hA : ∀ p q, a ≤ p → p < s → e ≤ q → q < b → Lt' ln (at0 xs p) (at0 xs q)) (hB : ∀ p q, m ≤ p → p < e → s ≤ q → q < m → Lt' ln (at0 xs p) (at0 xs q)) :
    Two ln ys a s d ∧ Two ln ys d e b ∧ ∀ p q, a ≤ p → p < d → d ≤ q → q < b → Lt' ln (at0 ys p) (at0 ys q) := by
  subst hd
  have g1 : ∀ q, q < s → at0 ys q = at0 xs q := fun q hq => by
    show ys.getD q 0 = _
    rw [hr.get, if_neg (by omega), if_neg (by omega)]
  have g2 : ∀ q, s ≤ q → q < s + (e - m) → at0 ys q = at0 xs (q - s + m) := fun q e1 e2 => by
    show ys.getD q 0 = _
    rw [hr.get, if_pos ⟨e1, e2⟩]
  have g3 : ∀ q, s + (e - m) ≤ q → q < e → at0 ys q = at0 xs (q - (e - m)) := fun q e1 e2 => by
    show ys.getD q 0 = _
    rw [hr.get, if_neg (by omega), if_pos ⟨e1, e2⟩]
  have g4 : ∀ q, e ≤ q → at0 ys q = at0 xs q := fun q hq => by
    show ys.getD q 0 = _
    rw [hr.get, if_neg (by omega), if_neg (by omega)]
  refine ⟨⟨fun p q c1 c2 c3 => ?_, fun p q c1 c2 c3 => ?_, fun p q c1 c2 c3 c4 => ?_⟩, ⟨fun p q c1 c2 c3 => ?_, fun p q c1 c2 c3 => ?_, fun p q c1 c2 c3 c4 => ?_⟩, fun p q c1 c2 c3 c4 => ?_⟩
  · rw [g1 p (by omega), g1 q (by omega)]; exact h.l p q c1 c2 (by omega)
  · rw [g2 p c1 (by omega), g2 q (by omega) c3]; exact h.r _ _ (by omega) (by omega) (by omega)
  · rw [g1 p c2, g2 q c3 c4]; exact h.lt _ _ c1 (by omega) (by omega) (by omega)
  · rw [g3 p c1 (by omega), g3 q (by omega) c3]; exact h.l _ _ (by omega) (by omega) (by omega)
  · rw [g4 p c1, g4 q (by omega)]; exact h.r _ _ (by omega) c2 c3
  · rw [g3 p c1 c2, g4 q c3]; exact h.lt _ _ (by omega) (by omega) (by omega) c4
  · rcases Nat.lt_or_ge p s with hp | hp
    · rw [g1 p hp]
      rcases Nat.lt_or_ge q e with hq | hq
      · rw [g3 q c3 hq]; exact h.l _ _ c1 (by omega) (by omega)
      · rw [g4 q hq]; exact hA _ _ c1 hp hq c4
    · rw [g2 p hp c2]
      rcases Nat.lt_or_ge q e with hq | hq
      · rw [g3 q c3 hq]; exact hB _ _ (by omega) (by omega) (by omega) (by omega)
      · rw [g4 q hq]; exact h.r _ _ (by omega) (by omega) c4
/-- The element at a goes up k places. -/
def mvU (xs : List Int) (a : Nat) : Nat → List Int
  | 0 => xs
  | k + 1 => swp (mvU xs a k) (a + k) (a + k + 1)
theorem mvU_len (xs : List Int) (a : Nat) : ∀ k, (mvU xs a k).length = xs.length
  | 0 => rfl
  | k + 1 => by rw [mvU, swp_len, mvU_len xs a k]
theorem mvU_perm {xs : List Int} {a : Nat} : ∀ k, a + k < xs.length → (mvU xs a k).Perm xs
  | 0, _ => .refl _
  | k + 1, h => (swp_perm (by rw [mvU_len]; omega) (by rw [mvU_len]; omega)).trans (mvU_perm k (by omega))
theorem mvU_get {xs : List Int} {a : Nat} : ∀ k, a + k < xs.length → ∀ q, at0 (mvU xs a k) q = if a ≤ q ∧ q < a + k then at0 xs (q + 1) else if q = a + k then at0 xs a else at0 xs q
  | 0, _, q => by
    rw [if_neg (by omega)]
    by_cases h : q = a
    · subst h; rw [if_pos (by omega)]; rfl
    · rw [if_neg (by omega)]; rfl
  | k + 1, h, q => by
    show (swp (mvU xs a k) (a + k) (a + k + 1)).getD q 0 = _
    rw [swp_get (by rw [mvU_len]; omega) (by rw [mvU_len]; omega)]
    have ih := mvU_get k (by omega : a + k < xs.length)
    by_cases h1 : q = a + k + 1
    · rw [if_pos h1, if_neg (by omega), if_pos (by omega)]
      have := ih (a + k)
      rw [if_neg (by omega), if_pos rfl] at this
      exact this
    · rw [if_neg h1]
      by_cases h2 : q = a + k
      · subst h2
        rw [if_pos rfl, if_pos (by omega)]
        have := ih (a + k + 1)
        rw [if_neg (by omega), if_neg (by omega)] at this
        exact this
      · rw [if_neg h2]
        have := ih q
        rw [show (mvU xs a k).getD q 0 = at0 (mvU xs a k) q from rfl, this]
        by_cases h3 : a ≤ q ∧ q < a + k
        · rw [if_pos h3, if_pos (by omega)]
        · rw [if_neg h3, if_neg h2, if_neg (by omega), if_neg (by omega)]
/-- The element at m goes down k places. -/
def mvD (xs : List Int) (m : Nat) : Nat → List Int
  | 0 => xs
  | k + 1 => swp (mvD xs m k) (m - k) (m - k - 1)
theorem mvD_len (xs : List Int) (m : Nat) : ∀ k, (mvD xs m k).length = xs.length
  | 0 => rfl
  | k + 1 => by rw [mvD, swp_len, mvD_len xs m k]
theorem mvD_perm {xs : List Int} {m : Nat} (hm : m < xs.length) : ∀ k, k ≤ m → (mvD xs m k).Perm xs
  | 0, _ => .refl _
  | k + 1, h => (swp_perm (by rw [mvD_len]; omega) (by rw [mvD_len]; omega)).trans (mvD_perm hm k (by omega))
theorem mvD_get {xs : List Int} {m : Nat} (hm : m < xs.length) : ∀ k, k ≤ m → ∀ q, at0 (mvD xs m k) q = if m - k < q ∧ q ≤ m then at0 xs (q - 1) else if q = m - k then at0 xs m else at0 xs q
  | 0, _, q => by
    rw [if_neg (by omega)]
    by_cases h : q = m
    · subst h; rw [if_pos (by omega)]; rfl
    · rw [if_neg (by omega)]; rfl
  | k + 1, h, q => by
    show (swp (mvD xs m k) (m - k) (m - k - 1)).getD q 0 = _
    rw [swp_get (by rw [mvD_len]; omega) (by rw [mvD_len]; omega)]
    have ih := mvD_get hm k (by omega)
    by_cases h1 : q = m - k - 1
    · rw [if_pos h1, if_neg (by omega), if_pos (by omega)]
      have := ih (m - k)
      rw [if_neg (by omega), if_pos rfl] at this
      exact this
    · rw [if_neg h1]
      by_cases h2 : q = m - k
      · rw [if_pos h2, if_pos (by omega)]
        have := ih (m - k - 1)
        rw [if_neg (by omega), if_neg (by omega)] at this
        rw [h2]
        exact this
      · rw [if_neg h2]
        have := ih q
        rw [show (mvD xs m k).getD q 0 = at0 (mvD xs m k) q from rfl, this]
        by_cases h3 : m - k < q ∧ q ≤ m
        · rw [if_pos h3, if_pos (by omega)]
        · rw [if_neg h3, if_neg h2, if_neg (by omega), if_neg (by omega)]
end Go.Proofs.YtkpehkadammppaaFx
/-! What sorting by places does: one element put into its place. -/
namespace Go.Proofs.YtkpehkadammppaaFx
open Go
theorem baseU {ln : Int → Nat} {xs : List Int} {a b k : Nat} (h : Two ln xs a (a + 1) b) (hk : a + k < b) (hb : b ≤ xs.length) (h1 : ∀ q, a + 1 ≤ q → q ≤ a + k → ln (at0 xs a) < ln (at0 xs q)) (h2 : ∀ q, a + k < q → q < b → ¬ ln (at0 xs a) < ln (at0 xs q)) : Srtd ln xs (mvU xs a k) a b := by
  have g := mvU_get (xs := xs) (a := a) k (by omega)
  have g1 : ∀ q, a ≤ q → q < a + k → at0 (mvU xs a k) q = at0 xs (q + 1) := fun q e1 e2 => by rw [g, if_pos ⟨e1, e2⟩]
  have g2 : at0 (mvU xs a k) (a + k) = at0 xs a := by rw [g, if_neg (by omega), if_pos rfl]
  have g3 : ∀ q, q < a ∨ a + k < q → at0 (mvU xs a k) q = at0 xs q := fun q e => by rw [g, if_neg (by omega), if_neg (by omega)]
  refine ⟨mvU_perm k (by omega), fun q hq => g3 q (by omega), fun p q e1 e2 e3 => ?_, fun P hP q e1 e2 => ?_⟩
  · rcases Nat.lt_or_ge p (a + k) with hp | hp
    · rw [g1 p e1 hp]
      rcases Nat.lt_or_ge q (a + k) with hq | hq
      · rw [g1 q (by omega) hq]; exact h.r _ _ (by omega) (by omega) (by omega)
      · rcases Nat.decEq q (a + k) with hq2 | hq2
        · rw [g3 q (.inr (by omega))]; exact h.r _ _ (by omega) (by omega) (by omega)
        · rw [hq2, g2]; exact .inl (h1 _ (by omega) (by omega))
    · rcases Nat.decEq p (a + k) with hp2 | hp2
      · rw [g3 p (.inr (by omega)), g3 q (.inr (by omega))]; exact h.r _ _ (by omega) e2 e3
      · rw [hp2, g2, g3 q (.inr (by omega))]
        have e4 := h2 q (by omega) e3
        have e5 := h.lt a q (Nat.le_refl _) (by omega) (by omega) e3
        unfold Lt'
        omega
  · rcases Nat.lt_or_ge q (a + k) with hq | hq
    · rw [g1 q e1 hq]; exact hP _ (by omega) (by omega)
    · rcases Nat.decEq q (a + k) with hq2 | hq2
      · rw [g3 q (.inr (by omega))]; exact hP _ e1 e2
      · rw [hq2, g2]; exact hP _ (Nat.le_refl _) (by omega)
theorem baseD {ln : Int → Nat} {xs : List Int} {a m k : Nat} (h : Two ln xs a m (m + 1)) (hk : a + k ≤ m) (hb : m < xs.length) (h1 : ∀ q, m - k ≤ q → q < m → ln (at0 xs q) < ln (at0 xs m)) (h2 : ∀ q, a ≤ q → q < m - k → ¬ ln (at0 xs q) < ln (at0 xs m)) : Srtd ln xs (mvD xs m k) a (m + 1) := by
  have g := mvD_get hb k (by omega)
  have g1 : ∀ q, m - k < q → q ≤ m → at0 (mvD xs m k) q = at0 xs (q - 1) := fun q e1 e2 => by rw [g, if_pos ⟨e1, e2⟩]
  have g2 : at0 (mvD xs m k) (m - k) = at0 xs m := by rw [g, if_neg (by omega), if_pos rfl]
  have g3 : ∀ q, q < m - k ∨ m < q → at0 (mvD xs m k) q = at0 xs q := fun q e => by rw [g, if_neg (by omega), if_neg (by omega)]
  refine ⟨mvD_perm hb k (by omega), fun q hq => g3 q (by omega), fun p q e1 e2 e3 => ?_, fun P hP q e1 e2 => ?_⟩
  · rcases Nat.lt_or_ge p (m - k) with hp | hp
    · rw [g3 p (.inl hp)]
      rcases Nat.lt_or_ge q (m - k) with hq | hq
      · rw [g3 q (.inl hq)]; exact h.l _ _ e1 e2 (by omega)
      · rcases Nat.decEq q (m - k) with hq2 | hq2
        · rw [g1 q (by omega) (by omega)]; exact h.l _ _ e1 (by omega) (by omega)
        · rw [hq2, g2]
          have e4 := h2 p e1 hp
          have e5 := h.lt p m e1 (by omega) (Nat.le_refl _) (by omega)
          unfold Lt'
          omega
    · rcases Nat.decEq p (m - k) with hp2 | hp2
      · rw [g1 p (by omega) (by omega), g1 q (by omega) (by omega)]; exact h.l _ _ (by omega) (by omega) (by omega)
      · rw [hp2, g2, g1 q (by omega) (by omega)]; exact .inl (h1 _ (by omega) (by omega))
  · rcases Nat.lt_or_ge q (m - k) with hq | hq
    · rw [g3 q (.inl hq)]; exact hP _ e1 (by omega)
    · rcases Nat.decEq q (m - k) with hq2 | hq2
      · rw [g1 q (by omega) (by omega)]; exact hP _ (by omega) (by omega)
      · rw [hq2, g2]; exact hP _ (by omega) (by omega)
end Go.Proofs.YtkpehkadammppaaFx
/-! What sorting by places does: the merge. -/
namespace Go.Proofs.YtkpehkadammppaaFx
open Go
theorem Sd.ge {ln : Int → Nat} {xs : List Int} {a b p q : Nat} (h : Sd ln xs a b) (h1 : a ≤ p) (h2 : p ≤ q) (h3 : q < b) : ln (at0 xs q) ≤ ln (at0 xs p) := by
  rcases Nat.lt_or_eq_of_le h2 with h4 | rfl
  · have := h p q h1 h4 h3
    unfold Lt' at this
    omega
  · exact Nat.le_refl _
theorem isRot_triv {xs : List Int} {s m e : Nat} (h : s = m ∨ e = m) (h1 : s ≤ m) (h2 : m ≤ e) : IsRot xs xs s m e :=
  ⟨.refl _, fun q => by
    split
    · congr 1
      omega
    · split
      · congr 1
        omega
      · rfl⟩
/-- Where the search ends. -/
structure Fnd (ln : Int → Nat) (xs : List Int) (a m b d s : Nat) : Prop where
  mid : d = (a + b) / 2
  lo : a ≤ s
  hi : s ≤ m
  elo : m ≤ d + m - s
  ehi : d + m - s ≤ b
  below : (s = a ∨ d + m - s = b) ∨ ¬ ln (at0 xs (s - 1)) < ln (at0 xs (d + m - s))
  above : (s = m ∨ d + m - s = m) ∨ ln (at0 xs s) < ln (at0 xs (d + m - s - 1))
theorem Fnd.rot {ln : Int → Nat} {xs ys : List Int} {a m b d s : Nat} (h : Two ln xs a m b) (f : Fnd ln xs a m b d s) (hr : IsRot xs ys s m (d + m - s)) :
    Two ln ys a s d ∧ Two ln ys d (d + m - s) b ∧ ∀ p q, a ≤ p → p < d → d ≤ q → q < b → Lt' ln (at0 ys p) (at0 ys q) := by
  have f1 := f.lo
  have f2 := f.hi
  have f3 := f.elo
  have f4 := f.ehi
  refine rot_two h hr f1 f2 f3 f4 (by omega) (fun p q e1 e2 e3 e4 => ?_) (fun p q e1 e2 e3 e4 => ?_)
  · have h5 := f.below.resolve_left (by omega)
    have h6 := h.l.ge (p := p) (q := s - 1) e1 (by omega) (by omega)
    have h7 := h.r.ge (p := d + m - s) (q := q) f3 e3 e4
    have h8 := h.lt p q e1 (by omega) (by omega) e4
    unfold Lt'
    omega
  · have h5 := f.above.resolve_left (by omega)
    have h6 := h.r.ge (p := p) (q := d + m - s - 1) e1 (by omega) (by omega)
    have h7 := h.l.ge (p := s) (q := q) f1 e3 e4
    exact .inl (by omega)
theorem Two.triv {ln : Int → Nat} {xs : List Int} {a m b : Nat} (h : Two ln xs a m b) (hc : m ≤ a ∨ b ≤ m) : Srtd ln xs xs a b :=
  ⟨.refl _, fun _ _ => rfl, fun p q e1 e2 e3 => by
    rcases hc with hc | hc
    · exact h.r p q (by omega) e2 e3
    · exact h.l p q e1 e2 (by omega), Keep.refl _ _ _⟩
theorem Two.same {ln : Int → Nat} {xs ys : List Int} {a m b : Nat} (h : Two ln xs a m b) (he : ∀ q, a ≤ q → at0 ys q = at0 xs q) (ham : a ≤ m) : Two ln ys a m b :=
  ⟨fun p q e1 e2 e3 => by rw [he p e1, he q (by omega)]; exact h.l p q e1 e2 e3, fun p q e1 e2 e3 => by rw [he p (by omega), he q (by omega)]; exact h.r p q e1 e2 e3, fun p q e1 e2 e3 e4 => by rw [he p e1, he q (by omega)]; exact h.lt p q e1 e2 e3 e4⟩
theorem IsRot.keep {xs ys : List Int} {a s m e b : Nat} (h : IsRot xs ys s m e) (h1 : a ≤ s) (h2 : s ≤ m) (h3 : m ≤ e) (h4 : e ≤ b) : Keep xs ys a b := fun P hP q e1 e2 => by
  show P (ys.getD q 0)
  rw [h.get]
  split
  · exact hP _ (by omega) (by omega)
  · split
    · exact hP _ (by omega) (by omega)
    · exact hP _ e1 e2
theorem merged {ln : Int → Nat} {xs ys zs us : List Int} {a m b d s : Nat} (f : Fnd ln xs a m b d s) (hr : IsRot xs ys s m (d + m - s)) (had : a ≤ d) (hdb : d ≤ b)
    (hc : ∀ p q, a ≤ p → p < d → d ≤ q → q < b → Lt' ln (at0 ys p) (at0 ys q)) (h1 : Srtd ln ys zs a d) (h2 : Srtd ln zs us d b) : Srtd ln xs us a b := by
  have f1 := f.lo
  have f2 := f.hi
  have f3 := f.elo
  have f4 := f.ehi
  have k1 : Keep ys us a d := h1.keep.trans (Keep.out fun q e1 e2 => h2.out q (.inl e2))
  have k2 : Keep ys us d b := (Keep.out fun q e1 e2 => h1.out q (.inr e1)).trans h2.keep
  refine ⟨(h2.perm.trans h1.perm).trans hr.perm, fun q hq => ?_, Sd.glue (m := d) (fun p q e1 e2 e3 => ?_) h2.sd (Keep.pairs k1 k2 hc), (hr.keep f1 f2 f3 f4).trans fun P hP q e1 e2 => ?_⟩
  · rw [h2.out q (by omega), h1.out q (by omega)]
    show ys.getD q 0 = _
    rw [hr.get, if_neg (by omega), if_neg (by omega)]
  · rw [h2.out p (by omega), h2.out q (by omega)]
    exact h1.sd p q e1 e2 e3
  · rcases Nat.lt_or_ge q d with hq | hq
    · exact k1 P (fun q e1 e2 => hP q e1 (by omega)) q e1 hq
    · exact k2 P (fun q e1 e2 => hP q (by omega) e2) q hq e2
end Go.Proofs.YtkpehkadammppaaFx
/-! What sorting by places does: passes over blocks. -/
namespace Go.Proofs.YtkpehkadammppaaFx
open Go
theorem Sd.same {ln : Int → Nat} {xs ys : List Int} {a b : Nat} (h : Sd ln xs a b) (he : ∀ q, a ≤ q → q < b → at0 ys q = at0 xs q) : Sd ln ys a b := fun p q e1 e2 e3 => by
  rw [he p e1 (by omega), he q (by omega) e3]
  exact h p q e1 e2 e3
theorem Keep.same {xs ys zs : List Int} {a b : Nat} (h : Keep xs ys a b) (he : ∀ q, a ≤ q → q < b → at0 zs q = at0 ys q) : Keep xs zs a b := h.trans (Keep.out he)
theorem Keep.join {xs ys : List Int} {a m b : Nat} (h1 : Keep xs ys a m) (h2 : Keep xs ys m b) (hmb : m ≤ b) (ham : a ≤ m) : Keep xs ys a b := fun P hP q e1 e2 => by
  rcases Nat.lt_or_ge q m with hq | hq
  · exact h1 P (fun q e1 e2 => hP q e1 (by omega)) q e1 hq
  · exact h2 P (fun q e1 e2 => hP q (by omega) e2) q hq e2
/-- Sorted by blocks of k. -/
structure Runs (ln : Int → Nat) (xs ys : List Int) (k N : Nat) : Prop where
  perm : ys.Perm xs
  sd : ∀ i, Sd ln ys (i * k) (min (i * k + k) N)
  keep : ∀ i, Keep xs ys (i * k) (min (i * k + k) N)
/-- The blocks below a are done. -/
structure Pass (ln : Int → Nat) (xs ys0 ys : List Int) (K a : Nat) : Prop where
  perm : ys.Perm xs
  mul : ∃ c, a = c * K
  sd : ∀ i, i * K + K ≤ a → Sd ln ys (i * K) (i * K + K)
  keep : ∀ i, i * K + K ≤ a → Keep xs ys (i * K) (i * K + K)
  out : ∀ q, a ≤ q → at0 ys q = at0 ys0 q
theorem Pass.start {ln : Int → Nat} {xs ys : List Int} {K : Nat} (hK : 0 < K) (h : ys.Perm xs) : Pass ln xs ys ys K 0 :=
  ⟨h, ⟨0, by omega⟩, fun i hi => by omega, fun i hi => by omega, fun _ _ => rfl⟩
theorem mul_cases {K a c i : Nat} (ha : a = c * K) (hi : ¬ i * K + K ≤ a) (hi2 : i * K < a + K) : i * K = a := by
  subst ha
  have h1 : ¬ i < c := fun h => hi (by have := Nat.mul_le_mul_right K (show i + 1 ≤ c from h); rw [Nat.succ_mul] at this; exact this)
  have h2 : ¬ c < i := fun h => by have := Nat.mul_le_mul_right K (show c + 1 ≤ i from h); rw [Nat.succ_mul] at this; omega
  rw [show i = c by omega]
theorem Pass.next {ln : Int → Nat} {xs ys0 ys zs : List Int} {K a : Nat} (h : Pass ln xs ys0 ys K a) (hK : 0 < K) (hs : Srtd ln ys zs a (a + K)) (hk : Keep xs ys a (a + K)) : Pass ln xs ys0 zs K (a + K) := by
  obtain ⟨c, hc⟩ := h.mul
  refine ⟨hs.perm.trans h.perm, ⟨c + 1, by rw [Nat.succ_mul, hc]⟩, fun i hi => ?_, fun i hi => ?_, fun q hq => by rw [hs.out q (.inr hq), h.out q (by omega)]⟩
  · rcases Nat.lt_or_ge a (i * K + K) with h1 | h1
    · rw [mul_cases hc (by omega) (by omega)]; exact hs.sd
    · exact (h.sd i h1).same fun q e1 e2 => hs.out q (.inl (by omega))
  · rcases Nat.lt_or_ge a (i * K + K) with h1 | h1
    · rw [mul_cases hc (by omega) (by omega)]; exact hk.trans hs.keep
    · exact (h.keep i h1).same fun q e1 e2 => hs.out q (.inl (by omega))
theorem Pass.done {ln : Int → Nat} {xs ys0 ys zs : List Int} {K a N : Nat} (h : Pass ln xs ys0 ys K a) (hs : Srtd ln ys zs a N) (hk : Keep xs ys a N) (haN : a ≤ N) (hN : N < a + K) : Runs ln xs zs K N := by
  obtain ⟨c, hc⟩ := h.mul
  refine ⟨hs.perm.trans h.perm, fun i => ?_, fun i => ?_⟩
  · rcases Nat.lt_or_ge a (i * K + K) with h1 | h1
    · rcases Nat.lt_or_ge (i * K) N with h2 | h2
      · rw [mul_cases hc (by omega) (by omega), Nat.min_eq_right (by omega)]; exact hs.sd
      · intro p q e1 e2 e3; omega
    · rw [Nat.min_eq_left (by omega)]; exact (h.sd i h1).same fun q e1 e2 => hs.out q (.inl (by omega))
  · rcases Nat.lt_or_ge a (i * K + K) with h1 | h1
    · rcases Nat.lt_or_ge (i * K) N with h2 | h2
      · rw [mul_cases hc (by omega) (by omega), Nat.min_eq_right (by omega)]; exact hk.trans hs.keep
      · intro P _ q e1 e2; omega
    · rw [Nat.min_eq_left (by omega)]; exact (h.keep i h1).same fun q e1 e2 => hs.out q (.inl (by omega))
/-- Two blocks are two stretches to be merged. -/
theorem Pass.two {ln : Int → Nat} {xs ys0 ys : List Int} {k a b N : Nat} (h : Pass ln xs ys0 ys (2 * k) a) (hr : Runs ln xs ys0 k N) (hasc : Asc xs 0 N) (hm : a + k ≤ N) (hb : b = min (a + 2 * k) N) : Two ln ys a (a + k) b ∧ Keep xs ys a b := by
  obtain ⟨c, hc⟩ := h.mul
  have e1 : (2 * c) * k = a := by rw [hc, Nat.mul_comm 2 c, Nat.mul_assoc]
  have e2 : (2 * c + 1) * k = a + k := by rw [Nat.succ_mul, e1]
  have l1 := hr.sd (2 * c)
  have l2 := hr.sd (2 * c + 1)
  have k1 := hr.keep (2 * c)
  have k2 := hr.keep (2 * c + 1)
  rw [e1, Nat.min_eq_left hm] at l1 k1
  rw [e2, show a + k + k = a + 2 * k by omega, ← hb] at l2 k2
  have o : ∀ q, a ≤ q → at0 ys q = at0 ys0 q := h.out
  have k1' := k1.same fun q e1 _ => o q e1
  have k2' := k2.same fun q e1 _ => o q (by omega)
  exact ⟨⟨l1.same fun q e1 _ => o q e1, l2.same fun q e1 _ => o q (by omega), Keep.pairs (R := fun x y => x < y) k1' k2' fun p q e1 e2 e3 e4 => hasc p q (Nat.zero_le _) (by omega) (by omega)⟩, Keep.join k1' k2' (by omega) (by omega)⟩
/-- One block is left. -/
theorem Pass.one {ln : Int → Nat} {xs ys0 ys : List Int} {k a N : Nat} (h : Pass ln xs ys0 ys (2 * k) a) (hr : Runs ln xs ys0 k N) (haN : a ≤ N) (hm : N ≤ a + k) : Srtd ln ys ys a N ∧ Keep xs ys a N := by
  obtain ⟨c, hc⟩ := h.mul
  have e1 : (2 * c) * k = a := by rw [hc, Nat.mul_comm 2 c, Nat.mul_assoc]
  have l1 := hr.sd (2 * c)
  have k1 := hr.keep (2 * c)
  rw [e1, Nat.min_eq_right hm] at l1 k1
  exact ⟨⟨.refl _, fun _ _ => rfl, l1.same fun q e1 _ => h.out q e1, Keep.refl _ _ _⟩, k1.same fun q e1 _ => h.out q e1⟩
theorem Pass.asc {ln : Int → Nat} {xs ys : List Int} {K a N : Nat} (h : Pass ln xs xs ys K a) (hasc : Asc xs 0 N) : Asc ys a N := fun p q e1 e2 e3 => by
  rw [h.out p e1, h.out q (by omega)]
  exact hasc p q (Nat.zero_le _) e2 e3
theorem Pass.keeps {ln : Int → Nat} {xs ys : List Int} {K a N : Nat} (h : Pass ln xs xs ys K a) : Keep xs ys a N := Keep.out fun q e1 _ => h.out q e1
theorem Asc.cut {xs : List Int} {a b N : Nat} (h : Asc xs a N) (hb : b ≤ N) : Asc xs a b := fun p q e1 e2 e3 => h p q e1 e2 (by omega)
theorem Runs.all {ln : Int → Nat} {xs ys : List Int} {k N : Nat} (h : Runs ln xs ys k N) (hk : N ≤ k) : Sd ln ys 0 N := by
  have := h.sd 0
  rwa [Nat.zero_mul, Nat.zero_add, Nat.min_eq_right hk] at this
end Go.Proofs.YtkpehkadammppaaFx
