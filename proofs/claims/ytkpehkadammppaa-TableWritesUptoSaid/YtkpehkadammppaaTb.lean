/- Tables as plain data. -/
import Derived.Test.YtkpehkadammppaaEq
set_option linter.unusedVariables false
namespace Go.Proofs.YtkpehkadammppaaFx
open Go Go.RowKit
theorem eq_step {α : Type} {xs ys : List α} {i : Nat} (z : α) (h : xs.take i = ys.take i) (hl : (xs.length : Int) = ys.length) (hi : i < xs.length) (he : xs.getD i z = ys.getD i z) : xs.take (i + 1) = ys.take (i + 1) := by
  rw [take_succ' z hi, take_succ' z (by omega), h, he]
theorem eq_done {α : Type} {xs ys : List α} {i : Nat} (h : xs.take i = ys.take i) (hl : (xs.length : Int) = ys.length) (hi : ¬ ((i : Int) < xs.length)) : xs = ys := by
  rwa [take_all hi, take_all (by omega)] at h
theorem ne_at {α : Type} {xs ys : List α} {i : Nat} {z : α} (h : xs.getD i z ≠ ys.getD i z) : xs ≠ ys := fun e => h (by rw [e])
theorem ne_len {α : Type} {xs ys : List α} (h : ¬ ((xs.length : Int) = ys.length)) : xs ≠ ys := fun e => h (by rw [e])
section
variable {α : Type} {f : Fk α} {d : Kn α} {w : World} {A : Option Addr} {i : Nat}
theorem Rd.atN {xs : List α} (h : Rd f.kn w A xs) (z : α) (h1 : i < xs.length) {k : Nat} {u : Value} (hu : (f.enc (xs.getD i z))[k]? = some u) : w.cell? (((adr A).add ((i : Int).toNat * f.sz)).add k) = some u := h.at z (i := (i : Int)) (by omega) (by omega) hu
theorem Rd.at1N {k : IntKind} {xs : List Int} (h : Rd (kInt k) w A xs) (h1 : i < xs.length) : w.cell? ((adr A).add ((i : Int).toNat * 1)) = some (.int k (xs.getD i 0)) := h.at1 (i := (i : Int)) (by omega) (by omega)
theorem Rd.at1sN {xs : List ByteArray} (h : Rd kStr w A xs) (h1 : i < xs.length) : w.cell? ((adr A).add ((i : Int).toNat * 1)) = some (.string (xs.getD i ByteArray.empty)) := h.at1s (i := (i : Int)) (by omega) (by omega)
theorem Rd.at1bN {xs : List Bool} (h : Rd kBool w A xs) (h1 : i < xs.length) : w.cell? ((adr A).add ((i : Int).toNat * 1)) = some (.bool (xs.getD i false)) := h.at1b (i := (i : Int)) (by omega) (by omega)
theorem Rd.atSlN {xs : List (List α)} (h : Rd d.sl w A xs) (h1 : i < xs.length) : ∃ B c, w.cell? ((adr A).add ((i : Int).toNat * 1)) = some (.slice B (xs.getD i []).length c) ∧ (xs.getD i []).length ≤ c ∧ Rd d w B (xs.getD i []) := h.atSl (i := (i : Int)) (by omega) (by omega)
end
/-- A table. -/
structure Tb where
  mv : List (List Mv)
  go : List (List Int)
  deriving DecidableEq
structure Tb.ok (t : Tb) : Prop where
  m : t.mv.length ≤ 1099511627776
  g : t.go.length ≤ 1099511627776
  mr : ∀ r ∈ t.mv, r.length ≤ 1099511627776 ∧ ∀ m ∈ r, I64 m.d ∧ I64 m.n
  gr : ∀ r ∈ t.go, r.length ≤ 1099511627776 ∧ ∀ x ∈ r, I64 x
abbrev Tb.val (t : Tb) (A B : Option Addr) (ca cb : Nat) : Value := .agg #[.slice A t.mv.length ca, .slice B t.go.length cb]
structure Tb.rd (t : Tb) (w : World) (A B : Option Addr) : Prop where
  m : Rd fMv.kn.sl w A t.mv
  g : Rd (kInt .i64).sl w B t.go
theorem Tb.rd.below {t : Tb} {w w' : World} {A B : Option Addr} (h : t.rd w A B) (hb : Below w.heap.size w w') : t.rd w' A B := ⟨h.m.below hb, h.g.below hb⟩
theorem Tb.ok.ml {t : Tb} (h : t.ok) {i : Nat} (hi : i < t.mv.length) : (t.mv.getD i []).length ≤ 1099511627776 := (h.mr _ (getD_mem hi)).1
theorem Tb.ok.gl {t : Tb} (h : t.ok) {i : Nat} (hi : i < t.go.length) : (t.go.getD i []).length ≤ 1099511627776 := (h.gr _ (getD_mem hi)).1
theorem Tb.ok.m' {t : Tb} (h : t.ok) : t.mv.length ≤ 1099511627776 := h.m
theorem Tb.ok.g' {t : Tb} (h : t.ok) : t.go.length ≤ 1099511627776 := h.g
/-- All states have a row of each sort, as long as the first state's. -/
def Rect (t : Tb) : Prop := 0 < t.mv.length ∧ 0 < (t.mv.getD 0 []).length ∧ t.go.length = t.mv.length ∧ ∀ s, s < t.mv.length → (t.mv.getD s []).length = (t.mv.getD 0 []).length ∧ (t.go.getD s []).length = (t.go.getD 0 []).length
theorem upto_succ {p : Nat → Prop} {i : Nat} (h : ∀ s, s < i → p s) (hi : p i) : ∀ s, s < i + 1 → p s := fun s hs => by
  rcases Nat.lt_or_eq_of_le (Nat.le_of_lt_succ hs) with h1 | rfl
  · exact h s h1
  · exact hi
theorem upto_zero {p : Nat → Prop} : ∀ s, s < 0 → p s := fun s hs => absurd hs (Nat.not_lt_zero s)
/-- A move a table of n states and pr productions may have. -/
def mvOk (m : Mv) (n pr : Int) : Prop := (m.d = 1 ∧ 0 ≤ m.n ∧ m.n < n) ∨ (m.d = 2 ∧ 0 ≤ m.n ∧ m.n < pr) ∨ ((m.d = 0 ∨ m.d = 3) ∧ m.n = 0)
def goOk (x n : Int) : Prop := -1 ≤ x ∧ x < n
/-- A state's rows. -/
def rowOk (t : Tb) (k r p : Int) (s : Nat) : Prop := ((t.mv.getD s []).length : Int) = k ∧ ((t.go.getD s []).length : Int) = r ∧ (∀ j, j < (t.mv.getD s []).length → mvOk ((t.mv.getD s []).getD j mv0) t.mv.length p) ∧ ∀ j, j < (t.go.getD s []).length → goOk ((t.go.getD s []).getD j 0) t.mv.length
def TGood (t : Tb) (k r p : Int) : Prop := 1 ≤ t.mv.length ∧ t.mv.length ≤ 4096 ∧ t.go.length = t.mv.length ∧ ∀ s, s < t.mv.length → rowOk t k r p s
/-- What the checks of a table answer. -/
noncomputable def checkF (t : Tb) (k r p : Int) : Int := if dec (k < 2 ∨ r < 0 ∨ p < 0) then 1 else if dec (TGood t k r p) then 0 else 170
theorem checkF_arg {t : Tb} {k r p : Int} (h : k < 2 ∨ r < 0 ∨ p < 0) : checkF t k r p = 1 := by rw [checkF, dec_t h]; rfl
theorem checkF_bad {t : Tb} {k r p : Int} (h : ¬ (k < 2 ∨ r < 0 ∨ p < 0)) (h2 : ¬ TGood t k r p) : checkF t k r p = 170 := by rw [checkF, dec_f h, dec_f h2]; rfl
theorem checkF_ok {t : Tb} {k r p : Int} (h : ¬ (k < 2 ∨ r < 0 ∨ p < 0)) (h2 : TGood t k r p) : checkF t k r p = 0 := by rw [checkF, dec_f h, dec_t h2]; rfl
end Go.Proofs.YtkpehkadammppaaFx
