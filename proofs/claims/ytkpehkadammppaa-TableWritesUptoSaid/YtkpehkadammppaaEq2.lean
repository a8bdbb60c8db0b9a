/- Equality of a pair of numbers of two types. -/
import Derived.Test.YtkpehkadammppaaEq
set_option linter.unusedVariables false
namespace Go.Proofs.YtkpehkadammppaaFx
open Go Go.RowKit
theorem eql_mv2 {P : Program} {t e e2 : TypeId} {k' k2 : IntKind} {f0 f1 : Field} (ht' : P.underlying t = some (.struct #[f0, f1])) (hp : P.stoodInHeld t = false) (hg : P.eqGuardType P.depth t = false) (he : P.underlying e = some (.int k')) (he2 : P.underlying e2 = some (.int k2)) (h0 : (f0.name != "_", f0.type, f0.offset) = (true, e, 0)) (h1 : (f1.name != "_", f1.type, f1.offset) = (true, e2, 1)) : EqlMv P t := by
  have hf0 : P.fieldsOf t = #[f0, f1] := by simp only [Program.fieldsOf, ht']
  have ht : P.underlying t = some (.struct (P.fieldsOf t)) := by rw [hf0]; exact ht'
  have hf : (P.fieldsOf t).toList = [f0, f1] := by rw [hf0]
  refine ⟨hg, fun W x y => ?_⟩
  rw [run_equalIn_struct W 9999 t _ _ ht hp, hf, eqf_step (d := 9998) (off := 0) (k := .i64) (a := x.d) (b := y.d) he h0 rfl rfl, eqf_step (d := 9998) (off := 1) (k := .i64) (a := x.n) (b := y.n) he2 h1 rfl rfl]
  obtain ⟨a, b⟩ := x
  obtain ⟨c, d⟩ := y
  by_cases hac : a = c <;> by_cases hbd : b = d <;> simp [hac, hbd, Op.eqFields]
end Go.Proofs.YtkpehkadammppaaFx
