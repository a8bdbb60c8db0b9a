/- The default of a row, as the document reckons it. -/
import Derived.Test.YtkpehkadammppaaUsual
import Derived.Test.YtkpehkadammppaaTb
set_option linter.unusedVariables false
namespace Go.Proofs.YtkpehkadammppaaFx
open Go
def RU (row : List Mv) (i : Nat) (best most : Int) : Prop := (most = 0 ∧ best = -1 ∧ ∀ j, j < i → (row.getD j mv0).d ≠ 2) ∨ (0 < most ∧ most = cnt row best ∧ ∀ j, j < i → (row.getD j mv0).d = 2 → (cnt row (row.getD j mv0).n : Int) < most ∨ ((cnt row (row.getD j mv0).n : Int) = most ∧ best ≤ (row.getD j mv0).n))
theorem RU.skip {row : List Mv} {i : Nat} {best most : Int} (h : RU row i best most) (hd : (row.getD i mv0).d ≠ 2) : RU row (i + 1) best most := by
  rcases h with ⟨h1, h2, h3⟩ | ⟨h1, h2, h3⟩
  · exact .inl ⟨h1, h2, upto_succ h3 hd⟩
  · exact .inr ⟨h1, h2, upto_succ h3 (fun h => absurd h hd)⟩
theorem RU.keep {row : List Mv} {i : Nat} {best most : Int} (h : RU row i best most) (hi : i < row.length) (hd : (row.getD i mv0).d = 2) (hb : ¬ ((cnt row (row.getD i mv0).n : Int) > most ∨ ((cnt row (row.getD i mv0).n : Int) = most ∧ (row.getD i mv0).n < best))) : RU row (i + 1) best most := by
  have hp := cnt_pos (getD_mem (z := mv0) hi) hd
  rcases h with ⟨h1, h2, h3⟩ | ⟨h1, h2, h3⟩
  · omega
  · exact .inr ⟨h1, h2, upto_succ h3 (fun _ => by omega)⟩
theorem RU.take {row : List Mv} {i : Nat} {best most : Int} (h : RU row i best most) (hi : i < row.length) (hd : (row.getD i mv0).d = 2) (hb : (cnt row (row.getD i mv0).n : Int) > most ∨ ((cnt row (row.getD i mv0).n : Int) = most ∧ (row.getD i mv0).n < best)) : RU row (i + 1) (row.getD i mv0).n (cnt row (row.getD i mv0).n) := by
  have hp := cnt_pos (getD_mem (z := mv0) hi) hd
  rcases h with ⟨h1, h2, h3⟩ | ⟨h1, h2, h3⟩
  · exact .inr ⟨by omega, rfl, upto_succ (fun j hj h => absurd h (h3 j hj)) (fun _ => .inr ⟨rfl, Int.le_refl _⟩)⟩
  · exact .inr ⟨by omega, rfl, upto_succ (fun j hj h => by have := h3 j hj h; omega) (fun _ => .inr ⟨rfl, Int.le_refl _⟩)⟩
theorem mem_getD {row : List Mv} {m : Mv} (h : m ∈ row) : ∃ j, j < row.length ∧ row.getD j mv0 = m := by
  obtain ⟨j, hj, he⟩ := List.mem_iff_getElem.1 h
  exact ⟨j, hj, by rw [List.getD_eq_getElem?_getD, List.getElem?_eq_getElem hj]; exact he⟩
theorem RU.fin {row : List Mv} {i : Nat} {best most : Int} (h : RU row i best most) (hi : ¬ ((i : Int) < row.length)) : (best < 0 ∧ most = 0 → usualF row = mv0) ∧ (¬ (best < 0 ∧ most = 0) → usualF row = ⟨2, best⟩) := by
  refine ⟨fun hc => ?_, fun hc => ?_⟩
  · rcases h with ⟨h1, h2, h3⟩ | ⟨h1, h2, h3⟩
    · refine (usualF_is row).unique (.inl ⟨rfl, fun x => ?_⟩)
      rcases Nat.eq_zero_or_pos (cnt row x) with h0 | h0
      · exact h0
      · obtain ⟨m, hm, hd, _⟩ := cnt_mem h0
        obtain ⟨j, hj, rfl⟩ := mem_getD hm
        exact absurd hd (h3 j (by omega))
    · omega
  · rcases h with ⟨h1, h2, h3⟩ | ⟨h1, h2, h3⟩
    · omega
    · refine (usualF_is row).unique (.inr ⟨best, rfl, by omega, fun y => ?_⟩)
      rcases Nat.eq_zero_or_pos (cnt row y) with h0 | h0
      · omega
      · obtain ⟨m, hm, hd, rfl⟩ := cnt_mem h0
        obtain ⟨j, hj, rfl⟩ := mem_getD hm
        have := h3 j (by omega) hd
        omega
theorem cnt_hit {row : List Mv} {s : Nat} {m : Mv} (h : s < row.length) (he : row.getD s mv0 = m) (hd : m.d = 2) : cnt (row.take (s + 1)) m.n = cnt (row.take s) m.n + 1 := by
  rw [cnt_take h, he, if_pos ⟨hd, rfl⟩]
theorem cnt_miss {row : List Mv} {s : Nat} {m : Mv} (h : s < row.length) (he : ¬ row.getD s mv0 = m) (hd : m.d = 2) : cnt (row.take (s + 1)) m.n = cnt (row.take s) m.n := by
  rw [cnt_take h, if_neg (fun hh => he (by
    obtain ⟨h1, h2⟩ := hh
    revert h1 h2 hd
    cases row.getD s mv0
    cases m
    intro hd h1 h2
    simp_all)), Nat.add_zero]
end Go.Proofs.YtkpehkadammppaaFx
