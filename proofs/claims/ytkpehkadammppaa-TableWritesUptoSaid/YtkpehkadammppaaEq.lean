/- Equality of structs of numbers. -/
import Derived.Test.YtkpehkadammppaaOwn
import Derived.Laws.StructEq
set_option linter.unusedVariables false
namespace Go.Proofs.YtkpehkadammppaaFx
open Go Go.RowKit
/-- Some statement's truth. -/
noncomputable def dec (p : Prop) : Bool := @decide p (Classical.propDecidable p)
theorem dec_t {p : Prop} (h : p) : dec p = true := by simp [dec, h]
theorem dec_f {p : Prop} (h : ¬ p) : dec p = false := by simp [dec, h]
theorem dec_iff {p q : Prop} (h : p ↔ q) : dec p = dec q := by rw [propext h]
theorem dec_eq {p : Prop} {b : Bool} (h : b = true ↔ p) : b = dec p := by
  cases b
  · exact (dec_f fun hp => by simpa using h.2 hp).symm
  · exact (dec_t (h.1 rfl)).symm
theorem of_dec {p : Prop} (h : dec p = true) : p := by
  rcases Classical.em p with hp | hp
  · exact hp
  · rw [dec_f hp] at h; exact absurd h (by simp)
theorem of_ndec {p : Prop} (h : dec p = false) : ¬ p := fun hp => by rw [dec_t hp] at h; exact absurd h (by simp)
section
variable {P : Program} {e : TypeId} {k' k : IntKind}
theorem eqf_step {d off : Nat} {f : Field} {fs : List Field} {xs ys : Array Value} {a b : Int} (he : P.underlying e = some (.int k')) (hf : (f.name != "_", f.type, f.offset) = (true, e, off)) (hx : xs[off]? = some (.int k a)) (hy : ys[off]? = some (.int k b)) (W : World) :
    (Op.eqFields (d + 1) xs ys (f :: fs)).run P W = if a = b then (Op.eqFields (d + 1) xs ys fs).run P W else .ok false W := by
  simp only [Prod.mk.injEq] at hf
  obtain ⟨h1, h2, h3⟩ := hf
  have hn : f.name ≠ "_" := by simpa using h1
  have hp : ∀ (cs : Array Value) (v : Value), cs[off]? = some v → (part f.type cs f.offset).run P W = .ok v W := fun cs v hv => by
    rw [h2, h3]
    have ha : (isAgg e).run P W = .ok false W := by
      simp only [isAgg, Sem.run_bind, run_underlying he, Result.andThen_ok]
      rfl
    simp [part, ha, hv, Result.andThen]
  rw [Op.eqFields, if_pos hn]
  simp only [Sem.run_bind, hp _ _ hx, hp _ _ hy, Result.andThen_ok]
  rw [h2, run_equalIn_int W d e k k' a b he]
  simp only [Result.andThen_ok]
  by_cases hab : a = b
  · simp [hab]
  · simp [hab]
def EqlMv (P : Program) (t : TypeId) : Prop := P.eqGuardType P.depth t = false ∧ ∀ (W : World) (x y : Mv), (Op.equalIn 10000 t (.agg (fMv.enc x).toArray) (.agg (fMv.enc y).toArray)).run P W = .ok (decide (x = y)) W
theorem eql_mv {t : TypeId} {f0 f1 : Field} (ht' : P.underlying t = some (.struct #[f0, f1])) (hp : P.stoodInHeld t = false) (hg : P.eqGuardType P.depth t = false) (he : P.underlying e = some (.int k')) (h0 : (f0.name != "_", f0.type, f0.offset) = (true, e, 0)) (h1 : (f1.name != "_", f1.type, f1.offset) = (true, e, 1)) : EqlMv P t := by
  have hf0 : P.fieldsOf t = #[f0, f1] := by simp only [Program.fieldsOf, ht']
  have ht : P.underlying t = some (.struct (P.fieldsOf t)) := by rw [hf0]; exact ht'
  have hf : (P.fieldsOf t).toList = [f0, f1] := by rw [hf0]
  refine ⟨hg, fun W x y => ?_⟩
  rw [run_equalIn_struct W 9999 t _ _ ht hp, hf, eqf_step (d := 9998) (off := 0) (k := .i64) (a := x.d) (b := y.d) he h0 rfl rfl, eqf_step (d := 9998) (off := 1) (k := .i64) (a := x.n) (b := y.n) he h1 rfl rfl]
  obtain ⟨a, b⟩ := x
  obtain ⟨c, d⟩ := y
  by_cases hac : a = c <;> by_cases hbd : b = d <;> simp [hac, hbd, Op.eqFields]
variable {n : Nat} {l : Fr} {w : World} {d : Nat} {x y : Operand} {ty t t2 : TypeId} {pos : String} {af : Array Edge} {a b : Mv}
theorem v_eqlm (hE : EqlMv P t) (hx : ev l x = some (.agg (fMv.enc a).toArray)) (hy : ev l y = some (.agg (fMv.enc b).toArray)) : Vs P n l ⟨some d, .binOp .eql t x y t2, ty, pos, af, none⟩ w (.bool (decide (a = b))) := fun c hc => by
  simp [execOp, hc.eval hx, hc.eval hy, run_eqGuard_agg w _ t x y _ _ hE.1, run_eql_struct, hE.2, Result.andThen]
theorem v_neqm (hE : EqlMv P t) (hx : ev l x = some (.agg (fMv.enc a).toArray)) (hy : ev l y = some (.agg (fMv.enc b).toArray)) : Vs P n l ⟨some d, .binOp .neq t x y t2, ty, pos, af, none⟩ w (.bool (!decide (a = b))) := fun c hc => by
  simp [execOp, hc.eval hx, hc.eval hy, run_eqGuard_agg w _ t x y _ _ hE.1, run_neq_struct, hE.2, Result.andThen]
end
end Go.Proofs.YtkpehkadammppaaFx
