/- A row's default, in plain Lean. -/
import Derived.Test.YtkpehkadammppaaLst
set_option linter.unusedVariables false
namespace Go.Proofs.YtkpehkadammppaaFx
/-- How many of a row's moves reduce by x. -/
def cnt (row : List Mv) (x : Int) : Nat := (row.filter fun m => decide (m.d = 2) && decide (m.n = x)).length
/-- r is the row's default. -/
def IsUsual (row : List Mv) (r : Mv) : Prop := (r = mv0 ∧ ∀ x, cnt row x = 0) ∨ ∃ x, r = ⟨2, x⟩ ∧ 0 < cnt row x ∧ ∀ y, cnt row y ≤ cnt row x ∧ (cnt row y = cnt row x → x ≤ y)
theorem IsUsual.unique {row : List Mv} {r r' : Mv} (h : IsUsual row r) (h' : IsUsual row r') : r = r' := by
  rcases h with ⟨rfl, h0⟩ | ⟨x, rfl, hx, hm⟩ <;> rcases h' with ⟨rfl, h0'⟩ | ⟨y, rfl, hy, hm'⟩
  · rfl
  · rw [h0] at hy; omega
  · rw [h0'] at hx; omega
  · have h1 := hm y
    have h2 := hm' x
    have h3 : cnt row x = cnt row y := by omega
    have h4 := h1.2 h3.symm
    have h5 := h2.2 h3
    have : x = y := by omega
    rw [this]
theorem cnt_snoc (row : List Mv) (m : Mv) (x : Int) : cnt (row ++ [m]) x = cnt row x + if m.d = 2 ∧ m.n = x then 1 else 0 := by
  unfold cnt
  rw [List.filter_append, List.length_append]
  by_cases h : m.d = 2 ∧ m.n = x
  · simp [List.filter_cons, h]
  · rw [if_neg h]
    have : (decide (m.d = 2) && decide (m.n = x)) = false := by simpa using h
    simp [List.filter_cons, this]
theorem cnt_take {row : List Mv} {i : Nat} (h : i < row.length) (x : Int) : cnt (row.take (i + 1)) x = cnt (row.take i) x + if (row.getD i mv0).d = 2 ∧ (row.getD i mv0).n = x then 1 else 0 := by
  rw [take_succ' mv0 h, cnt_snoc]
theorem cnt_le (row : List Mv) (x : Int) : cnt row x ≤ row.length := List.length_filter_le _ _
theorem cnt_pos {row : List Mv} {m : Mv} (h : m ∈ row) (hd : m.d = 2) : 0 < cnt row m.n := by
  unfold cnt
  exact List.length_pos_of_mem (List.mem_filter.2 ⟨h, by simp [hd]⟩)
theorem cnt_mem {row : List Mv} {x : Int} (h : 0 < cnt row x) : ∃ m ∈ row, m.d = 2 ∧ m.n = x := by
  obtain ⟨m, hm⟩ := List.exists_mem_of_length_pos h
  obtain ⟨h1, h2⟩ := List.mem_filter.1 hm
  exact ⟨m, h1, by simpa using h2⟩
/-- One more is looked at. -/
def better (row : List Mv) (best : Mv) (x : Int) : Bool := decide (best.d = 0) || decide (cnt row best.n < cnt row x) || (decide (cnt row x = cnt row best.n) && decide (x < best.n))
/-- best is the best of those of p. -/
def Best (row : List Mv) (p : Int → Prop) (best : Mv) : Prop := (best = mv0 ∧ ∀ x, ¬ p x) ∨ ∃ x, best = ⟨2, x⟩ ∧ p x ∧ ∀ y, p y → cnt row y ≤ cnt row x ∧ (cnt row y = cnt row x → x ≤ y)
theorem Best.step {row : List Mv} {p q : Int → Prop} {best : Mv} {x : Int} (h : Best row p best) (hq : ∀ y, q y ↔ p y ∨ y = x) : Best row q (if better row best x = true then ⟨2, x⟩ else best) := by
  unfold better
  rcases h with ⟨rfl, h0⟩ | ⟨b, rfl, hb, hm⟩
  · rw [if_pos (by simp [mv0])]
    refine .inr ⟨x, rfl, (hq x).2 (.inr rfl), fun y hy => ?_⟩
    rcases (hq y).1 hy with h | rfl
    · exact absurd h (h0 y)
    · exact ⟨Nat.le_refl _, fun _ => Int.le_refl _⟩
  · by_cases hc : cnt row b < cnt row x ∨ cnt row x = cnt row b ∧ x < b
    · rw [if_pos (by simp; exact hc)]
      refine .inr ⟨x, rfl, (hq x).2 (.inr rfl), fun y hy => ?_⟩
      rcases (hq y).1 hy with h | rfl
      · have := hm y h
        omega
      · exact ⟨Nat.le_refl _, fun _ => Int.le_refl _⟩
    · rw [if_neg (by simp; omega)]
      refine .inr ⟨b, rfl, (hq b).2 (.inl hb), fun y hy => ?_⟩
      rcases (hq y).1 hy with h | rfl
      · exact hm y h
      · omega
theorem Best.usual {row : List Mv} {p : Int → Prop} {best : Mv} (h : Best row p best) (hp : ∀ x, p x ↔ 0 < cnt row x) : IsUsual row best := by
  rcases h with ⟨rfl, h0⟩ | ⟨x, rfl, hx, hm⟩
  · exact .inl ⟨rfl, fun x => by have := h0 x; rw [hp] at this; omega⟩
  · refine .inr ⟨x, rfl, (hp x).1 hx, fun y => ?_⟩
    have h1 := (hp x).1 hx
    by_cases hy : 0 < cnt row y
    · exact hm y ((hp y).2 hy)
    · omega
/-- The default, reckoned. -/
def usualF (row : List Mv) : Mv := row.foldl (fun best m => if m.d = 2 ∧ better row best m.n = true then ⟨2, m.n⟩ else best) mv0
theorem usual_fold (row : List Mv) : ∀ (r done : List Mv) (best : Mv), Best row (fun x => ∃ m ∈ done, m.d = 2 ∧ m.n = x) best → Best row (fun x => ∃ m ∈ done ++ r, m.d = 2 ∧ m.n = x) (r.foldl (fun best m => if m.d = 2 ∧ better row best m.n = true then ⟨2, m.n⟩ else best) best)
  | [], done, best, h => by simpa using h
  | m :: r, done, best, h => by
    rw [List.foldl_cons, show done ++ m :: r = (done ++ [m]) ++ r by simp]
    refine usual_fold row r (done ++ [m]) _ ?_
    by_cases hd : m.d = 2
    · have := Best.step (q := fun x => ∃ m' ∈ done ++ [m], m'.d = 2 ∧ m'.n = x) (x := m.n) h (fun y => by
        constructor
        · rintro ⟨m', hm', h1, h2⟩
          rcases List.mem_append.1 hm' with hm' | hm'
          · exact .inl ⟨m', hm', h1, h2⟩
          · rw [List.mem_singleton.1 hm'] at h2; exact .inr h2.symm
        · rintro (⟨m', hm', h1, h2⟩ | rfl)
          · exact ⟨m', List.mem_append_left _ hm', h1, h2⟩
          · exact ⟨m, by simp, hd, rfl⟩)
      by_cases hb : better row best m.n = true
      · rw [if_pos ⟨hd, hb⟩]; rwa [if_pos hb] at this
      · rw [if_neg (fun h => hb h.2)]; rwa [if_neg hb] at this
    · rw [if_neg (fun h => hd h.1)]
      rcases h with ⟨rfl, h0⟩ | ⟨x, rfl, hx, hm⟩
      · refine .inl ⟨rfl, fun x ⟨m', hm', h1, h2⟩ => ?_⟩
        rcases List.mem_append.1 hm' with hm' | hm'
        · exact h0 x ⟨m', hm', h1, h2⟩
        · rw [List.mem_singleton.1 hm'] at h1; exact hd h1
      · obtain ⟨m', hm', h1, h2⟩ := hx
        refine .inr ⟨x, rfl, ⟨m', List.mem_append_left _ hm', h1, h2⟩, fun y ⟨m'', hm'', h3, h4⟩ => ?_⟩
        rcases List.mem_append.1 hm'' with hm'' | hm''
        · exact hm y ⟨m'', hm'', h3, h4⟩
        · rw [List.mem_singleton.1 hm''] at h3; exact absurd h3 hd
theorem usualF_is (row : List Mv) : IsUsual row (usualF row) := by
  have := usual_fold row row [] mv0 (.inl ⟨rfl, fun x ⟨m, hm, _⟩ => by simp at hm⟩)
  refine this.usual fun x => ⟨fun ⟨m, hm, h1, h2⟩ => ?_, fun h => ?_⟩
  · rw [← h2]; exact cnt_pos (by simpa using hm) h1
  · obtain ⟨m, hm, h1, h2⟩ := cnt_mem h
    exact ⟨m, by simpa using hm, h1, h2⟩
/-- The counts as a map's entries. -/
def fC (row : List Mv) (x : Int) : Option Int := if cnt row x = 0 then none else some (cnt row x)
theorem fC_nil : (fun _ : Int => (none : Option Int)) = fC [] := by
  funext x
  simp [fC, cnt]
theorem fC_get (row : List Mv) (x : Int) : ((fC row x).map (Go.Value.int .i64)).getD (.int .i64 0) = .int .i64 (cnt row x) := by
  unfold fC
  split
  · rename_i h; rw [h]; rfl
  · rfl
theorem fC_some {row : List Mv} {x c : Int} (h : fC row x = some c) : 0 < cnt row x ∧ c = cnt row x := by
  unfold fC at h
  split at h
  · cases h
  · rename_i h0
    cases h
    exact ⟨by omega, rfl⟩
theorem fC_isSome (row : List Mv) (x : Int) : (fC row x).isSome = true ↔ 0 < cnt row x := by
  unfold fC
  split
  · rename_i h; simp [h]
  · rename_i h; simp; omega
theorem fC_step {row : List Mv} {i : Nat} (h : i < row.length) (hd : (row.getD i mv0).d = 2) : (fun y => if y = (row.getD i mv0).n then some ((cnt (row.take i) (row.getD i mv0).n : Int) + 1) else fC (row.take i) y) = fC (row.take (i + 1)) := by
  funext y
  by_cases hy : y = (row.getD i mv0).n
  · have e : cnt (row.take (i + 1)) y = cnt (row.take i) y + 1 := by rw [cnt_take h, if_pos ⟨hd, hy.symm⟩]
    rw [if_pos hy]
    unfold fC
    rw [e, if_neg (by omega), hy]
    rfl
  · have e : cnt (row.take (i + 1)) y = cnt (row.take i) y := by rw [cnt_take h, if_neg (fun g => hy g.2.symm), Nat.add_zero]
    rw [if_neg hy]
    unfold fC
    rw [e]
theorem fC_skip {row : List Mv} {i : Nat} (h : i < row.length) (hd : (row.getD i mv0).d ≠ 2) : fC (row.take i) = fC (row.take (i + 1)) := by
  funext y
  have e : cnt (row.take (i + 1)) y = cnt (row.take i) y := by rw [cnt_take h, if_neg (fun g => hd g.1), Nat.add_zero]
  unfold fC
  rw [e]
theorem cnt_i64 {row : List Mv} (hw : ∀ m ∈ row, I64 m.n) {x : Int} (h : 0 < cnt row x) : I64 x := by
  obtain ⟨m, hm, _, rfl⟩ := cnt_mem h
  exact hw m hm
theorem Best.i64 {row : List Mv} {p : Int → Prop} {best : Mv} (hw : ∀ m ∈ row, I64 m.n) (hp : ∀ x, p x → 0 < cnt row x) (h : Best row p best) : I64 best.n := by
  rcases h with ⟨rfl, _⟩ | ⟨x, rfl, hx, _⟩
  · show I64 0; unfold I64; omega
  · exact cnt_i64 hw (hp x hx)
theorem left_step {row : List Mv} {left left2 : Int → Bool} {kx : Int} (hw : ∀ m ∈ row, I64 m.n) (hc0 : 0 < cnt row kx) (h4 : ∀ y, (Go.Lit.int .i64 y).wf = true → (left2 y = true ↔ left y = true ∧ y ≠ kx)) :
    ∀ y, (0 < cnt row y ∧ left2 y = false) ↔ (0 < cnt row y ∧ left y = false) ∨ y = kx := by
  intro y
  by_cases hc : 0 < cnt row y
  · have h := h4 y (wf64 (cnt_i64 hw hc))
    by_cases hy : y = kx
    · subst hy
      have : left2 y = false := by
        cases h1 : left2 y
        · rfl
        · exact absurd rfl (h.1 h1).2
      exact ⟨fun _ => .inr rfl, fun _ => ⟨hc, this⟩⟩
    · have : left2 y = left y := by
        cases h1 : left2 y <;> cases h2 : left y <;> first | rfl | skip
        · have := h.2 ⟨h2, hy⟩; rw [h1] at this; cases this
        · have := (h.1 h1).1; rw [h2] at this; cases this
      rw [this]
      exact ⟨fun g => .inl g, fun g => g.resolve_right hy⟩
  · constructor
    · rintro ⟨h, _⟩; exact absurd h hc
    · rintro (⟨h, _⟩ | rfl)
      · exact absurd h hc
      · exact absurd hc0 hc
end Go.Proofs.YtkpehkadammppaaFx
