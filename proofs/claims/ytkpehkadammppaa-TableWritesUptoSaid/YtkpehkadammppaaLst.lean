/- Small facts on lists. -/
import Derived.Test.YtkpehkadammppaaMore
import Derived.WalkArith
namespace Go.Proofs.YtkpehkadammppaaFx
open Go
theorem getD_mem {α : Type} {xs : List α} {i : Nat} {z : α} (h : i < xs.length) : xs.getD i z ∈ xs := by
  rw [List.getD_eq_getElem?_getD, List.getElem?_eq_getElem h]
  exact List.getElem_mem h
theorem take_succ' {α : Type} {xs : List α} {i : Nat} (z : α) (h : i < xs.length) : xs.take (i + 1) = xs.take i ++ [xs.getD i z] := by
  rw [List.take_succ_eq_append_getElem h, List.getD_eq_getElem?_getD, List.getElem?_eq_getElem h]
  rfl
theorem all_succ {α : Type} {xs : List α} {i : Nat} {p : α → Bool} (z : α) (h : i < xs.length) : (xs.take (i + 1)).all p = ((xs.take i).all p && p (xs.getD i z)) := by
  rw [take_succ' z h, List.all_append]
  simp
theorem all_not {α : Type} {xs : List α} {i : Nat} {p : α → Bool} (z : α) (h : i < xs.length) (hp : p (xs.getD i z) = false) : xs.all p = false := by
  rw [List.all_eq_false]
  exact ⟨_, getD_mem h, by simpa using hp⟩
theorem any_succ {α : Type} {xs : List α} {i : Nat} {p : α → Bool} (z : α) (h : i < xs.length) : (xs.take (i + 1)).any p = ((xs.take i).any p || p (xs.getD i z)) := by
  rw [take_succ' z h, List.any_append]
  simp
theorem take_all {α : Type} {xs : List α} {i : Nat} (h : ¬ ((i : Int) < xs.length)) : xs.take i = xs := List.take_of_length_le (by omega)
theorem getD_nat {α : Type} {xs : List α} {i : Nat} {z : α} : xs.getD (i : Int).toNat z = xs.getD i z := by rw [Int.toNat_natCast]
/-- The numbers of int64. -/
def I64 (x : Int) : Prop := -9223372036854775808 ≤ x ∧ x ≤ 9223372036854775807
theorem wf64 {x : Int} (h : I64 x) : (Lit.int .i64 x).wf = true := WalkArith.wf_i64 h
/-- A move: what, and its number. -/
structure Mv where
  d : Int
  n : Int
  deriving DecidableEq
def fMv : Fk Mv := ⟨2, fun m => [.int .i64 m.d, .int .i64 m.n], fun _ => rfl, fun x u hu => by
  simp only [List.mem_cons, List.not_mem_nil, or_false] at hu
  rcases hu with rfl | rfl <;> rfl⟩
def mv0 : Mv := ⟨0, 0⟩
end Go.Proofs.YtkpehkadammppaaFx
