/- Packed tables unpacked: plain definitions. -/
import Derived.Test.YtkpehkadammppaaAlive
set_option linter.unusedVariables false
namespace Go.Proofs.YtkpehkadammppaaFx
open Go Go.RowKit
def mvRow (p : Pk) (s j : Nat) : List Mv := (List.range j).map fun (k : Nat) => lookMv p s k
def goRw (p : Pk) (s j : Nat) : List Int := (List.range j).map fun (k : Nat) => lookGo p s k
theorem mvRow_succ (p : Pk) (s j : Nat) : mvRow p s (j + 1) = mvRow p s j ++ [lookMv p s j] := by simp [mvRow, List.range_succ]
theorem goRw_succ (p : Pk) (s j : Nat) : goRw p s (j + 1) = goRw p s j ++ [lookGo p s j] := by simp [goRw, List.range_succ]
theorem mvRow_len (p : Pk) (s j : Nat) : (mvRow p s j).length = j := by simp [mvRow]
theorem goRw_len (p : Pk) (s j : Nat) : (goRw p s j).length = j := by simp [goRw]
def mvs (p : Pk) (i : Nat) : List (List Mv) := (List.range i).map fun (s : Nat) => mvRow p s p.kinds.toNat
def gos (p : Pk) (i : Nat) : List (List Int) := (List.range i).map fun (s : Nat) => goRw p s p.rules.toNat
theorem mvs_succ (p : Pk) (i : Nat) : mvs p (i + 1) = mvs p i ++ [mvRow p i p.kinds.toNat] := by simp [mvs, List.range_succ]
theorem gos_succ (p : Pk) (i : Nat) : gos p (i + 1) = gos p i ++ [goRw p i p.rules.toNat] := by simp [gos, List.range_succ]
theorem mvs_len (p : Pk) (i : Nat) : (mvs p i).length = i := by simp [mvs]
theorem gos_len (p : Pk) (i : Nat) : (gos p i).length = i := by simp [gos]
def mvFill (p : Pk) (s j : Nat) : List Mv := mvRow p s j ++ List.replicate (p.kinds.toNat - j) mv0
def goFill (p : Pk) (s j : Nat) : List Int := goRw p s j ++ List.replicate (p.rules.toNat - j) 0
theorem mvFill_len {p : Pk} {s j : Nat} (h : j ≤ p.kinds.toNat) : (mvFill p s j).length = p.kinds.toNat := by
  simp only [mvFill, List.length_append, mvRow_len, List.length_replicate]; omega
theorem goFill_len {p : Pk} {s j : Nat} (h : j ≤ p.rules.toNat) : (goFill p s j).length = p.rules.toNat := by
  simp only [goFill, List.length_append, goRw_len, List.length_replicate]; omega
theorem mvFill_next {p : Pk} {s j : Nat} (h : j < p.kinds.toNat) : mvFill p s (j + 1) = (mvFill p s j).set j (lookMv p s j) := by
  unfold mvFill
  rw [List.set_append_right _ _ (by rw [mvRow_len]; exact Nat.le_refl _), mvRow_len, Nat.sub_self, show p.kinds.toNat - j = (p.kinds.toNat - (j + 1)) + 1 by omega, List.replicate_succ, List.set_cons_zero, mvRow_succ, List.append_assoc]
  rfl
theorem goFill_next {p : Pk} {s j : Nat} (h : j < p.rules.toNat) : goFill p s (j + 1) = (goFill p s j).set j (lookGo p s j) := by
  unfold goFill
  rw [List.set_append_right _ _ (by rw [goRw_len]; exact Nat.le_refl _), goRw_len, Nat.sub_self, show p.rules.toNat - j = (p.rules.toNat - (j + 1)) + 1 by omega, List.replicate_succ, List.set_cons_zero, goRw_succ, List.append_assoc]
  rfl
theorem mvFill_zero (p : Pk) (s : Nat) : mvFill p s 0 = List.replicate p.kinds.toNat mv0 := rfl
theorem goFill_zero (p : Pk) (s : Nat) : goFill p s 0 = List.replicate p.rules.toNat 0 := rfl
theorem mvFill_all (p : Pk) (s : Nat) : mvFill p s p.kinds.toNat = mvRow p s p.kinds.toNat := by simp [mvFill]
theorem goFill_all (p : Pk) (s : Nat) : goFill p s p.rules.toNat = goRw p s p.rules.toNat := by simp [goFill]
def UpOk (p : Pk) : Prop := 1 ≤ p.dflt.length ∧ p.dflt.length ≤ 4096 ∧ 2 ≤ p.kinds ∧ p.kinds ≤ 1024 ∧ 0 ≤ p.rules ∧ p.rules ≤ 2048 ∧ p.base.length = p.dflt.length ∧ p.gbase.length = p.dflt.length
noncomputable def upAns (p : Pk) : Tb := if dec (UpOk p) then ⟨mvs p p.dflt.length, gos p p.dflt.length⟩ else ⟨[], []⟩
noncomputable def upErr (p : Pk) : Int := if dec (UpOk p) then 0 else 170
theorem up_t {p : Pk} (h : UpOk p) : upAns p = ⟨mvs p p.dflt.length, gos p p.dflt.length⟩ ∧ upErr p = 0 := by
  rw [upAns, upErr, dec_t h]; exact ⟨rfl, rfl⟩
theorem up_f {p : Pk} (h : ¬ UpOk p) : upAns p = ⟨[], []⟩ ∧ upErr p = 170 := by
  rw [upAns, upErr, dec_f h]; exact ⟨rfl, rfl⟩
end Go.Proofs.YtkpehkadammppaaFx
