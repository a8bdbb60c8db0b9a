/- How rows are laid over one another. -/
import Derived.Test.YtkpehkadammppaaDflt
import Derived.Test.YtkpehkadammppaaFree
set_option linter.unusedVariables false
namespace Go.Proofs.YtkpehkadammppaaFx
open Go Go.RowKit Go.Proofs.Ytkpehkadammppaa.Free
def padTo (c : List Int) (n : Nat) : List Int := c ++ List.replicate (n - c.length) (-1)
def putAt (c : List Int) (at_ s : Int) : List Int := (padTo c (at_.toNat + 1)).set at_.toNat s
def firstFree (c row : List Int) : Nat := ((List.range (c.length + 1)).find? fun (b : Nat) => freeB c row (b : Int)).getD c.length
theorem freeB_end {c row : List Int} {b : Int} (hb : (c.length : Int) ≤ b) (hk : ∀ k ∈ row, 0 ≤ k) : freeB c row b = true := by
  unfold freeB
  rw [List.all_eq_true]
  intro k hk'
  have := hk k hk'
  simp only [Bool.not_eq_true', Bool.and_eq_false_iff, decide_eq_false_iff_not]
  omega
theorem firstFree_is {c row : List Int} {b : Nat} (h : ∀ b', b' < b → freeB c row (b' : Int) = false) (hf : freeB c row (b : Int) = true) (hb : b ≤ c.length) : firstFree c row = b := by
  unfold firstFree
  have : (List.range (c.length + 1)).find? (fun (b : Nat) => freeB c row (b : Int)) = some b := by
    rw [List.find?_range_eq_some]
    exact ⟨hf, List.mem_range.2 (by omega), fun j hj => by simp [h j hj]⟩
  rw [this]
  rfl
theorem firstFree_le (c row : List Int) : firstFree c row ≤ c.length := by
  unfold firstFree
  cases h : (List.range (c.length + 1)).find? fun (b : Nat) => freeB c row (b : Int) with
  | none => exact Nat.le_refl _
  | some b =>
    have := List.mem_of_find?_eq_some h
    rw [List.mem_range] at this
    exact Nat.le_of_lt_succ this
abbrev LS := List Int × List Int
def putsN (c row : List Int) (b s : Int) (j : Nat) : List Int := (row.take j).foldl (fun c k => putAt c (b + k) s) c
def stepF (rows : List (List Int)) (st : LS) (s : Int) : LS :=
  (st.1.set s.toNat (firstFree st.2 (rows.getD s.toNat [])), putsN st.2 (rows.getD s.toNat []) (firstFree st.2 (rows.getD s.toNat [])) s (rows.getD s.toNat []).length)
def stN (rows : List (List Int)) (ord : List Int) (i : Nat) : LS := (ord.take i).foldl (stepF rows) (List.replicate rows.length 0, [])
def laidF (rows : List (List Int)) (ord : List Int) (least : Int) : LS := ((stN rows ord ord.length).1, padTo (stN rows ord ord.length).2 least.toNat)
theorem stN_succ {rows : List (List Int)} {ord : List Int} {i b : Nat} (h : i < ord.length) (hb : firstFree (stN rows ord i).2 (rows.getD (ord.getD i 0).toNat []) = b) :
    stN rows ord (i + 1) = ((stN rows ord i).1.set (ord.getD i 0).toNat b, putsN (stN rows ord i).2 (rows.getD (ord.getD i 0).toNat []) b (ord.getD i 0) (rows.getD (ord.getD i 0).toNat []).length) := by
  have e : stN rows ord (i + 1) = stepF rows (stN rows ord i) (ord.getD i 0) := by
    unfold stN
    rw [take_succ' 0 h, List.foldl_append]
    rfl
  rw [e, stepF, hb]
theorem stN_len (rows : List (List Int)) (ord : List Int) (i : Nat) : (stN rows ord i).1.length = rows.length := by
  unfold stN
  generalize ord.take i = l
  have : ∀ (l : List Int) (st : LS), (l.foldl (stepF rows) st).1.length = st.1.length := by
    intro l
    induction l with
    | nil => exact fun st => rfl
    | cons s r ih =>
      intro st
      rw [List.foldl_cons, ih]
      simp [stepF]
  rw [this, List.length_replicate]
theorem putsN_succ {c row : List Int} {b s : Int} {j : Nat} (h : j < row.length) : putsN c row b s (j + 1) = putAt (putsN c row b s j) (b + row.getD j 0) s := by
  unfold putsN
  rw [take_succ' 0 h, List.foldl_append]
  rfl
theorem take_done {row : List Int} {j : Nat} {c : List Int} {b s : Int} (h : ¬ ((j : Int) < row.length)) : putsN c row b s row.length = putsN c row b s j := by
  unfold putsN
  rw [take_all h, List.take_length]
/-- -1 put behind, q times. -/
def padN (C : List Int) : Nat → List Int
  | 0 => C
  | q + 1 => padN C q ++ [-1]
theorem padN_eq (C : List Int) : ∀ q, padN C q = C ++ List.replicate q (-1)
  | 0 => by simp [padN]
  | q + 1 => by rw [padN, padN_eq C q, List.append_assoc, ← List.replicate_succ']
theorem padN_len (C : List Int) (q : Nat) : (padN C q).length = C.length + q := by rw [padN_eq]; simp
theorem pad_is {C : List Int} {q n : Nat} (h : q = 0 ∨ C.length + q ≤ n) (h2 : n ≤ C.length + q) : padN C q = padTo C n := by
  rw [padN_eq]
  unfold padTo
  rw [show n - C.length = q by omega]
theorem len_set (xs : List Int) (i : Nat) (a : Int) : (xs.set i a).length = xs.length := List.length_set
theorem padTo_len (c : List Int) (n : Nat) : (padTo c n).length = max c.length n := by
  simp only [padTo, List.length_append, List.length_replicate]
  omega
theorem putAt_len (c : List Int) (a s : Int) : (putAt c a s).length = max c.length (a.toNat + 1) := by
  rw [putAt, List.length_set, padTo_len]
def iota (n : Nat) : List Int := (List.range n).map fun (j : Nat) => (j : Int)
def fillN (n s : Nat) : List Int := iota s ++ List.replicate (n - s) 0
theorem fillN_len {n s : Nat} (h : s ≤ n) : (fillN n s).length = n := by
  simp [fillN, iota]; omega
theorem fillN_next {n s : Nat} (h : s < n) : (fillN n s).set s (s : Int) = fillN n (s + 1) := by
  unfold fillN iota
  have hl : ((List.range s).map fun j : Nat => (j : Int)).length = s := by simp
  rw [List.set_append_right _ _ (by omega), hl, Nat.sub_self, show n - s = (n - (s + 1)) + 1 by omega, List.replicate_succ, List.set_cons_zero, List.range_succ, List.map_append, List.append_assoc]
  rfl
theorem fillN_all {n s : Nat} (h : s ≤ n) (h2 : ¬ ((s : Int) < n)) : fillN n s = iota n := by
  have : s = n := by omega
  subst this
  simp [fillN]
end Go.Proofs.YtkpehkadammppaaFx
