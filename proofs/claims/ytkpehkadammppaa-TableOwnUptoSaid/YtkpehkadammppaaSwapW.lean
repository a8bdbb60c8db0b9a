/- Two places of the order are exchanged. -/
import Derived.Test.YtkpehkadammppaaProg
import Derived.Test.YtkpehkadammppaaSw
import Derived.Test.YtkpehkadammppaaSortT
import Derived.Lib.ReflectliteSwap
import Derived.Laws.Externs
set_option linter.unusedVariables false
set_option linter.unusedSimpArgs false
namespace Go.Proofs.Ytkpehkadammppaa.SwapW
open Go Go.RowKit Go.Proofs.YtkpehkadammppaaFx Go.Proofs.Ytkpehkadammppaa.SortT
theorem one3 : One Try.prog 3 := one_of Try.underlying3 rfl (by kernel_rfl)

set_option maxRecDepth 100000 in
open Go.Lib Go.Extern in
theorem swap_run {W0 w : World} {L L' : List Ch} {g n i j : Nat} {xs : List Int} (H : Holds W0 L w) (U : Upd L (Row (fInt .i64) 3 (.slice (some ⟨g, 0, none⟩) n n) xs) (Row (fInt .i64) 3 (.slice (some ⟨g, 0, none⟩) n n) (swp xs i j)) L') (hi : i < xs.length) (hj : j < xs.length) :
    ∃ w', (callFunc 83 #[.int .i64 i, .int .i64 j, .slice (some ⟨g, 0, none⟩) n n, typeHandle Try.prog 3]).run Try.prog w = .ok (.value (.tuple #[])) w' ∧ Holds W0 L' w' := by
  have h2 : (Try.prog.info? 3).map (fun j => j.size) = some 1 := by kernel_rfl
  obtain ⟨ie, hie, hs⟩ := Option.map_eq_some_iff.1 h2
  have hagg : ∀ w, (isAgg 3).run Try.prog w = .ok false w := one3.agg
  obtain ⟨Lm, U1, U2⟩ := U.mid (Row (fInt .i64) 3 (.slice (some ⟨g, 0, none⟩) n n) (xs.set i (xs.getD j 0)))
  obtain ⟨_, _, hA, _⟩ := H.upd U
  obtain ⟨hn, _, hr⟩ := rd_of_own (f := fInt .i64) hA.2
  have ci := hr.at1N hi
  have cj := hr.at1N hj
  simp only [adr, Nat.mul_one, Int.toNat_natCast, Addr.add_lit] at ci cj
  have hfr : ∀ q, w.frozen? ⟨g, q, none⟩ = false := fun q => by
    rcases hA.2.2 with ⟨_, hz⟩ | ⟨g', cap, cur, hv, _, hh, _⟩
    · omega
    · injection hv with hv1 _ _
      injection hv1 with hv1
      injection hv1 with hv1 _ _
      subst hv1
      exact frozen_of_row w g q _ 3 hh
  have hrun := run_swap_one (P := Try.prog) true 3 ie hie hs hagg g 0 n n i j (by omega) (by omega) (.int .i64 (xs.getD i 0)) (.int .i64 (xs.getD j 0)) rfl rfl w ci cj (hfr _) (hfr _)
  have hx := run_callFunc_extern Try.func83 (by kernel_rfl) (by kernel_rfl) (by kernel_rfl) (e := ReflectliteSwapper.swap true) (by kernel_rfl) #[.int .i64 i, .int .i64 j, .slice (some ⟨g, 0, none⟩) n n, typeHandle Try.prog 3] w
  rw [hrun] at hx
  exact ⟨_, hx, (H.setI U1 hi).setI U2 (by rw [List.length_set]; exact hj)⟩
end Go.Proofs.Ytkpehkadammppaa.SwapW
