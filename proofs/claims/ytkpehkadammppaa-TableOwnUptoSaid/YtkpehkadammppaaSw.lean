/- Two numbers of an own row change places. -/
import Derived.Test.YtkpehkadammppaaDflt
import Derived.Lib.ReflectliteSwap
import Derived.Laws.Externs
set_option linter.unusedVariables false
namespace Go.Proofs.YtkpehkadammppaaFx
open Go Go.RowKit
/-- Places i and j exchanged. -/
def swp (xs : List Int) (i j : Nat) : List Int := (xs.set i (xs.getD j 0)).set j (xs.getD i 0)
theorem Upd.mid {L L' : List Ch} {A C : Ch} (B : Ch) (U : Upd L A C L') : ∃ Lm, Upd L A B Lm ∧ Upd Lm B C L' := by
  induction U with
  | here A C L => exact ⟨_, .here A B L, .here B C L⟩
  | there D h ih =>
    obtain ⟨Lm, h1, h2⟩ := ih
    exact ⟨_, .there D h1, .there D h2⟩
section
variable {w W0 : World} {L L' : List Ch} {e n c g j : Nat} {A : Option Addr} {xs : List Int} {x : Int}
theorem Holds.blk0 (H : Holds W0 L w) (U : Upd L (Row (fInt .i64) e (.slice A n c) xs) (Row (fInt .i64) e (.slice A n c) xs) L) (hn : 0 < xs.length) : ∃ g, A = some ⟨g, 0, none⟩ := by
  have h := H.raw U
  rcases h.2 with ⟨_, hz⟩ | ⟨g, cap, cur, hv, _⟩
  · omega
  · injection hv with h1
    exact ⟨g, h1⟩
theorem Holds.setI (H : Holds W0 L w) (U : Upd L (Row (fInt .i64) e (.slice (some ⟨g, 0, none⟩) n c) xs) (Row (fInt .i64) e (.slice (some ⟨g, 0, none⟩) n c) (xs.set j x)) L') (hj : j < xs.length) : Holds W0 L' (w.setCell ⟨g, 0 + j, none⟩ (.int .i64 x)) := by
  obtain ⟨S, hS, ⟨hSv, hown⟩, hstep⟩ := H.upd U
  rcases hown.2 with ⟨_, hz⟩ | ⟨g', cap, cur, hv, _, hh, hnc, hcm, hsz2, hcur⟩
  · omega
  · injection hv with hA hnn hcap
    injection hA with hA
    injection hA with hA _ _
    subst hA hcap
    rw [Nat.zero_add]
    have hsz : (w.setCell ⟨g, j, none⟩ (.int .i64 x)).heap.size = w.heap.size := by simp [World.setCell]
    have hcl : cur.toList.length = c * 1 := by simpa [fInt] using hsz2
    refine hstep _ S rfl rfl rfl (by rw [hsz]; exact Nat.le_refl _) (fun k hk hn => heap_setCell_other w _ k _ (fun ek => hn (ek ▸ hSv g (by simp [Value.ownBlock])))) (fun k hk => .inl hk) ⟨hSv, ?_⟩
    refine ⟨by rw [flat_len, List.length_set], .inr ⟨g, c, _, by rw [List.length_set, hnn], Nat.zero_le _, heap_setCell_same w g j cur e _ (by simpa using hh), by rw [List.length_set]; exact hnc, hcm, by simpa using hsz2, ?_⟩⟩
    rw [List.length_set]
    have h1 := flat_splice (fInt .i64) xs j x hj
    have h2 := take_splice cur.toList ((fInt .i64).enc x) (j * 1) 1 (xs.length * 1) rfl (by omega) (by rw [hcl]; exact Nat.mul_le_mul_right _ hnc)
    have h3 : cur.toList.take (xs.length * 1) = xs.flatMap (fInt .i64).enc := hcur
    rw [h3] at h2
    have h4 : (cur.setIfInBounds j (.int .i64 x)).toList = cur.toList.take (j * 1) ++ (fInt .i64).enc x ++ cur.toList.drop (j * 1 + 1) := by
      rw [Array.toList_setIfInBounds, Nat.mul_one, List.set_eq_take_append_cons_drop, if_pos (by rw [hcl]; omega)]
      simp [fInt]
    rw [h4]
    exact h2.trans h1
end
end Go.Proofs.YtkpehkadammppaaFx
