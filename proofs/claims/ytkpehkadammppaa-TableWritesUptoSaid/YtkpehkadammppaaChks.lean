/- Numbers of a table with its defaults. -/
import Derived.Test.YtkpehkadammppaaAlive
set_option linter.unusedVariables false
namespace Go.Proofs.YtkpehkadammppaaFx
open Go Go.RowKit
theorem usualF_i64 {row : List Mv} (h : ∀ m ∈ row, I64 m.d ∧ I64 m.n) : I64 (usualF row).d ∧ I64 (usualF row).n := by
  rcases usualF_is row with ⟨e, _⟩ | ⟨x, e, hx, _⟩
  · rw [e]; unfold I64 mv0; decide
  · rw [e]
    obtain ⟨m, hm, _, rfl⟩ := cnt_mem hx
    exact ⟨show I64 2 by unfold I64; decide, (h m hm).2⟩
theorem dfT_ok {t : Tb} (h : t.ok) : (dfT t).ok := by
  refine ⟨by simpa [dfT] using h.m, h.g, fun r hr => ?_, h.gr⟩
  obtain ⟨row, hrow, rfl⟩ := List.mem_map.1 (show r ∈ t.mv.map dfRow from hr)
  refine ⟨by simpa [dfRow] using (h.mr row hrow).1, fun m hm => ?_⟩
  obtain ⟨m', hm', rfl⟩ := List.mem_map.1 (show m ∈ row.map (dfm row) from hm)
  unfold dfm
  split
  · exact usualF_i64 (h.mr row hrow).2
  · exact (h.mr row hrow).2 m' hm'
theorem dfAns_ok {t : Tb} (h : t.ok) : (dfAns t).ok := by
  unfold dfAns
  split
  · exact dfT_ok h
  · exact ⟨by decide, by decide, fun r hr => by simp at hr, fun r hr => by simp at hr⟩
end Go.Proofs.YtkpehkadammppaaFx
