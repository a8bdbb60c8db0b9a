/- Shifts. -/
import Derived.Test.YtkpehkadammppaaEq
set_option linter.unusedVariables false
namespace Go.Proofs.YtkpehkadammppaaFx
open Go Go.RowKit
/-- Several ways meet. -/
theorem wc_cut {P : Program} {n : Nat} {Q : Post} {l : Fr} {w : World} {σ : Type} {x y : Code} (fr : σ → Fr) (inv : σ → World → Prop) (h : wc P n x (thenQ (fun l' w' => ∃ s, Sub (fr s) l' ∧ inv s w') Q) l w) (k : ∀ s w, inv s w → wc P n y Q (fr s) w) : wc P n (.seq x y) Q l w :=
  wc_mid _ h fun _ _ ⟨s, hs, hi⟩ => wc_sub hs (k s _ hi)
section
variable {P : Program} {n : Nat} {l : Fr} {w : World} {x y : Operand} {ty t t2 : TypeId} {pos : String} {af : Array Edge} {gd : Option (Nat × Bool)} {dst : Option Tmp} {i j : Int} {k yk : IntKind}
theorem v_shr (hx : ev l x = some (.int k i)) (hy : ev l y = some (.int yk j)) (h0 : 0 ≤ j) (h1 : j ≤ k.bits) : Vs P n l ⟨dst, .binOp .shr t x y t2, ty, pos, af, gd⟩ w (.int k (i / 2 ^ j.toNat)) := fun a ha => by
  simp [execOp, ha.eval hx, ha.eval hy, eqGuard_shr, binOp_shr, shift_shr k yk i j h0 h1]
theorem v_shl (hx : ev l x = some (.int k i)) (hy : ev l y = some (.int yk j)) (h0 : 0 ≤ j) (h1 : j ≤ k.bits) : Vs P n l ⟨dst, .binOp .shl t x y t2, ty, pos, af, gd⟩ w (.int k (k.wrap (i * 2 ^ j.toNat))) := fun a ha => by
  simp [execOp, ha.eval hx, ha.eval hy, eqGuard_shl, binOp_shl, shift_shl k yk i j h0 h1]
theorem wrap_u {i : Int} (h : 0 ≤ i ∧ i ≤ 9223372036854775807) : IntKind.u64.wrap i = i := by
  have e1 : (2 ^ IntKind.u64.bits : Int) = 18446744073709551616 := rfl
  have e3 : IntKind.u64.signed = false := rfl
  unfold IntKind.wrap
  simp only [e1, e3, Bool.false_and, Bool.false_eq_true, if_false]
  omega
theorem v_toU (hs : P.underlying t = some (.int .i64)) (hd : P.underlying t2 = some (.int .u64)) (hx : ev l x = some (.int .i64 i)) (h : 0 ≤ i ∧ i ≤ 9223372036854775807) : Vs P n l ⟨dst, .convert t t2 x, ty, pos, af, gd⟩ w (.int .u64 i) := by
  have h1 := v_conv (P := P) (n := n) (w := w) (ty := ty) (pos := pos) (af := af) (gd := gd) (dst := dst) hs hd hx
  rwa [wrap_u h] at h1
theorem v_toI (hs : P.underlying t = some (.int .u64)) (hd : P.underlying t2 = some (.int .i64)) (hx : ev l x = some (.int .u64 i)) (h : 0 ≤ i ∧ i ≤ 9223372036854775807) : Vs P n l ⟨dst, .convert t t2 x, ty, pos, af, gd⟩ w (.int .i64 i) := by
  have h1 := v_conv (P := P) (n := n) (w := w) (ty := ty) (pos := pos) (af := af) (gd := gd) (dst := dst) hs hd hx
  rwa [IntWalk.i64_in _ (by omega)] at h1
theorem v_half (hx : ev l x = some (.int .u64 i)) (hy : ev l y = some (.int yk 1)) : Vs P n l ⟨dst, .binOp .shr t x y t2, ty, pos, af, gd⟩ w (.int .u64 (i / 2)) := v_shr hx hy (by decide) (by decide)
end
end Go.Proofs.YtkpehkadammppaaFx
