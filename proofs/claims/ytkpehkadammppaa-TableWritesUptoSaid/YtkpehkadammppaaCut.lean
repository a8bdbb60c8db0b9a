/- Slices cut. -/
import Derived.Test.YtkpehkadammppaaHeld
set_option linter.unusedVariables false
namespace Go.Proofs.YtkpehkadammppaaFx
open Go Go.RowKit
def cutA (A : Option Addr) (l m s : Nat) : Option Addr := if m = l then A else A.map (·.add (l * s))
theorem add_zero' (a : Addr) : a.add 0 = a := by simp [Addr.add]
theorem elem_is {P : Program} {t e : TypeId} (ht : P.underlying t = some (.slice e)) : P.elem t = e := by simp [Program.elem, ht]
section
variable {α : Type} {d : Kn α} {f : Fk α} {w W0 : World} {A : Option Addr} {xs : List α} {lo c e m : Nat} {L L' : List Ch}
theorem Rd.cut (h : Rd d w A xs) (hl : lo ≤ xs.length) (hc : xs.length ≤ c) : Rd d w (cutA A lo c d.sz) (xs.drop lo) := by
  unfold cutA
  split
  · rw [List.drop_of_length_le (by omega)]
    exact Rd.nil _ _ _
  · rename_i hne
    refine ⟨fun hp => ?_, fun j x hx => ?_⟩
    · rw [List.length_drop] at hp
      rw [h.ad (by omega)]
      rfl
    · rw [List.getElem?_drop] at hx
      have hA := h.ad (by have := (List.getElem?_eq_some_iff.1 hx).1; omega)
      obtain ⟨cs, h1, h2⟩ := h.el _ _ hx
      refine ⟨cs, h1, fun i u hu => ?_⟩
      have := h2 i u hu
      rw [hA]
      show w.cell? (((adr A).add (lo * d.sz)).add _) = _
      rw [add_add, ← Nat.add_assoc, ← Nat.add_mul]
      exact this
/-- The head of a row of the call's own. -/
theorem Holds.rcut (H : Holds W0 L w) (U : Upd L (Row f e (.slice A m c) xs) (Row f e (.slice A lo c) (xs.take lo)) L') (hl : lo ≤ xs.length) : Holds W0 L' w :=
  H.imp U fun S ⟨h1, h2⟩ => by
    have e1 : (xs.take lo).length = lo := by rw [List.length_take]; omega
    have hfl := flat_len f xs
    have hle : lo * f.sz ≤ xs.length * f.sz := Nat.mul_le_mul_right _ hl
    have e2 : (xs.take lo).flatMap f.enc = (xs.flatMap f.enc).take (lo * f.sz) := by
      have h3 : xs.flatMap f.enc = (xs.take lo).flatMap f.enc ++ (xs.drop lo).flatMap f.enc := by rw [← List.flatMap_append, List.take_append_drop]
      have h4 := flat_len f (xs.take lo)
      rw [e1] at h4
      rw [h3, ← h4, List.take_left']
      rfl
    refine ⟨fun k hk => h1 k (by cases A <;> exact hk), by rw [flat_len], ?_⟩
    rw [e1]
    rcases h2.2 with ⟨hv, hz⟩ | ⟨g, cap, cur, hv, hg, hh, hn, hcm, hsz, hcur⟩
    · injection hv with a1 a2 a3
      subst a1 a2 a3
      exact .inl ⟨by rw [show lo = 0 by omega], by omega⟩
    · injection hv with a1 a2 a3
      subst a1 a2 a3
      refine .inr ⟨g, c, cur, rfl, hg, hh, by omega, hcm, hsz, ?_⟩
      rw [e2, ← hcur, List.take_take, Nat.min_eq_left hle]
end
section
variable {P : Program} {n : Nat} {Q : Post} {l : Fr} {w : World} {d : Nat} {x y z : Operand} {ty t e : TypeId} {pos : String} {af : Array Edge} {A : Option Addr} {m c sz : Nat} {k k2 : IntKind} {lo hi : Int}
theorem v_cutlo (ht : P.underlying t = some (.slice e)) (hsz : ∀ W, (sizeOf e).run P W = .ok sz W) (hx : ev l x = some (.slice A m c)) (hy : ev l y = some (.int k lo)) (h0 : 0 ≤ lo) (h1 : lo ≤ m) :
    Vs P n l ⟨some d, .slice t x (some y) none none, ty, pos, af, none⟩ w (.slice (cutA A lo.toNat c sz) (m - lo.toNat) (c - lo.toNat)) := fun a ha => by
  have ht' : P.underlying t = some (.slice (P.elem t)) := by rw [elem_is ht]; exact ht
  have h := run_slice_l (P := P) w t A m c ht' k lo h0 h1
  rw [elem_is ht, hsz] at h
  simp [execOp, ha.eval hx, ha.eval hy, run_sliceAt_slice w t _ _ _ _ ht', h, sliced, cutA]
theorem v_cuthi (ht : P.underlying t = some (.slice e)) (hsz : ∀ W, (sizeOf e).run P W = .ok sz W) (hx : ev l x = some (.slice A m c)) (hy : ev l y = some (.int k hi)) (h0 : 0 ≤ hi) (h1 : hi ≤ c) :
    Vs P n l ⟨some d, .slice t x none (some y) none, ty, pos, af, none⟩ w (.slice A hi.toNat c) := fun a ha => by
  have ht' : P.underlying t = some (.slice (P.elem t)) := by rw [elem_is ht]; exact ht
  have h := run_slice_h (P := P) w t A m c ht' k hi h0 h1
  rw [elem_is ht, hsz] at h
  have e1 : (fun x : Addr => x.add 0) = id := funext fun a => add_zero' a
  simp [execOp, ha.eval hx, ha.eval hy, run_sliceAt_slice w t _ _ _ _ ht', h, sliced, e1]
end
end Go.Proofs.YtkpehkadammppaaFx
