/- Rows of rows of the call's own. -/
import Derived.Test.YtkpehkadammppaaTb
set_option linter.unusedVariables false
namespace Go.Proofs.YtkpehkadammppaaFx
open Go Go.RowKit
/-- L' is picked out of L. -/
inductive Pm : List Ch → List Ch → Prop
  | nil (L : List Ch) : Pm L []
  | cons {L L1 L' : List Ch} {A : Ch} (D : Del L A L1) (h : Pm L1 L') : Pm L (A :: L')
theorem HL.pm {L L' : List Ch} (h : Pm L L') : ∀ {w : World} {S : Nat → Prop}, HL L w S → HL L' w S := by
  induction h with
  | nil L => exact fun _ => trivial
  | cons D h ih =>
    intro w S hl
    obtain ⟨S1, S2, h1, h2, h3, h4, h5⟩ := HL.del D hl
    exact ⟨S1, S2, h1, h2, h3, h4, ih h5⟩
theorem Holds.pm {W0 w : World} {L L' : List Ch} (H : Holds W0 L w) (h : Pm L L') : Holds W0 L' w := ⟨H.old, HL.pm h H.hl⟩
theorem HL.unapp : ∀ {L1 L2 : List Ch} {w : World} {S : Nat → Prop}, HL (L1 ++ L2) w S → ∃ S1 S2 : Nat → Prop, (∀ k, S1 k → S k) ∧ (∀ k, S2 k → S k) ∧ (∀ k, S1 k → ¬ S2 k) ∧ HL L1 w S1 ∧ HL L2 w S2
  | [], L2, w, S, h => ⟨fun _ => False, S, fun _ hk => hk.elim, fun _ hk => hk, fun _ hk => hk.elim, trivial, h⟩
  | A :: L1, L2, w, S, ⟨S1, S2, h1, h2, h3, h4, h5⟩ => by
    obtain ⟨T1, T2, g1, g2, g3, g4, g5⟩ := HL.unapp h5
    exact ⟨fun k => S1 k ∨ T1 k, T2, fun k hk => hk.elim (h1 k) (fun h => h2 k (g1 k h)), fun k hk => h2 k (g2 k hk), fun k hk hk2 => hk.elim (fun h => h3 k h (g2 k hk2)) (fun h => g3 k h hk2), ⟨S1, T1, fun k hk => .inl hk, fun k hk => .inr hk, fun k hk hk2 => h3 k hk (g1 k hk2), h4, g4⟩, g5⟩
/-- The inner rows. -/
def zips {α : Type} (f : Fk α) (e : TypeId) : List Value → List (List α) → List Ch
  | v :: vs, xs :: xss => Row f e v xs :: zips f e vs xss
  | _, _ => []
theorem zips_app {α : Type} (f : Fk α) (e : TypeId) : ∀ (vs vs' : List Value) (xss xss' : List (List α)), vs.length = xss.length → zips f e (vs ++ vs') (xss ++ xss') = zips f e vs xss ++ zips f e vs' xss'
  | [], _, [], _, _ => rfl
  | [], _, _ :: _, _, h => by simp at h
  | _ :: _, _, [], _, h => by simp at h
  | v :: vs, vs', xs :: xss, xss', h => by
    show _ :: zips f e (vs ++ vs') (xss ++ xss') = _ :: (zips f e vs xss ++ zips f e vs' xss')
    rw [zips_app f e vs vs' xss xss' (by simpa using h)]
/-- Rows of rows: e the rows' type, e2 their elements'. -/
def RR {α : Type} (f : Fk α) (e e2 : TypeId) (v : Value) (xss : List (List α)) : Ch where
  p := fun w S => ∃ vs : List Value, vs.length = xss.length ∧ HL (Raw e 1 v xss.length vs :: zips f e2 vs xss) w S
  st := fun h ⟨vs, hl, hp⟩ => ⟨vs, hl, HL.st h hp⟩
section
variable {α : Type} {f : Fk α} {w w' W0 : World} {A : Option Addr} {xs : List α} {xss : List (List α)} {L L1 L2 L' : List Ch} {e e2 n c : Nat} {u v : Value}
theorem Holds.opened {C : Ch} {Ls : List Ch} (H : Holds W0 (C :: L) w) (h : ∀ S, C.p w S → HL Ls w S) : Holds W0 (Ls ++ L) w := by
  obtain ⟨ho, S1, S2, h1, h2, h3, h4, h5⟩ := H
  exact ⟨ho, HL.app h1 h2 h3 (h S1 h4) h5⟩
theorem Holds.closed {C : Ch} {Ls : List Ch} (H : Holds W0 (Ls ++ L) w) (h : ∀ S, HL Ls w S → C.p w S) : Holds W0 (C :: L) w := by
  obtain ⟨ho, hl⟩ := H
  obtain ⟨S1, S2, h1, h2, h3, h4, h5⟩ := HL.unapp hl
  exact ⟨ho, S1, S2, h1, h2, h3, h S1 h4, h5⟩
/-- A row of rows, opened. -/
theorem Holds.rrOpen (H : Holds W0 (RR f e e2 v xss :: L) w) : ∃ vs : List Value, vs.length = xss.length ∧ Holds W0 ((Raw e 1 v xss.length vs :: zips f e2 vs xss) ++ L) w := by
  obtain ⟨ho, S1, S2, h1, h2, h3, ⟨vs, hv, h4⟩, h5⟩ := H
  exact ⟨vs, hv, ho, HL.app h1 h2 h3 h4 h5⟩
theorem Holds.rrClose {vs : List Value} (hv : vs.length = xss.length) (H : Holds W0 ((Raw e 1 v xss.length vs :: zips f e2 vs xss) ++ L) w) : Holds W0 (RR f e e2 v xss :: L) w := H.closed fun S h => ⟨vs, hv, h⟩
theorem Holds.rrNil (H : Holds W0 L w) (f : Fk α) (e e2 : Nat) : Holds W0 (RR f e e2 (.slice none 0 0) [] :: L) w := Holds.rrClose (vs := []) rfl (H.nilrow e 1)
theorem zips_rd {w : World} (f : Fk α) (e : TypeId) : ∀ (vs : List Value) (xss : List (List α)) (S : Nat → Prop), vs.length = xss.length → HL (zips f e vs xss) w S → ∀ (j : Nat) (xs : List α), xss[j]? = some xs → ∃ (A : Option Addr) (c : Nat), vs[j]? = some (Value.slice A xs.length c) ∧ xs.length ≤ c ∧ xs.length ≤ maxLen ∧ Rd f.kn w A xs
  | [], [], _, _, _, j, xs, hx => by simp at hx
  | [], _ :: _, _, h, _, _, _, _ => by simp at h
  | _ :: _, [], _, h, _, _, _, _ => by simp at h
  | v :: vs, ys :: xss, S, h, hl, j, xs, hx => by
    obtain ⟨S1, S2, _, _, _, h4, h5⟩ := hl
    cases j with
    | zero =>
      simp only [List.getElem?_cons_zero, Option.some.injEq] at hx
      subst hx
      obtain ⟨A, c, rfl, hn, hA, hc⟩ := own_slice h4.2
      exact ⟨A, c, rfl, hn, own_max h4.2, (rd_of_own h4.2).2.2⟩
    | succ j => exact zips_rd f e vs xss S2 (by simpa using h) h5 j xs (by simpa using hx)
/-- As it is read. -/
theorem Holds.rr (H : Holds W0 L w) (U : Upd L (RR f e e2 v xss) (RR f e e2 v xss) L) : ∃ A c, v = .slice A xss.length c ∧ xss.length ≤ c ∧ xss.length ≤ maxLen ∧ (∀ xs ∈ xss, xs.length ≤ maxLen) ∧ Rd f.kn.sl w A xss := by
  obtain ⟨S, hS, vs, hv, S1, S2, h1, h2, h3, h4, h5⟩ := H.get U
  obtain ⟨A, c, rfl, hn, hA, hc⟩ := own_slice h4.2
  have hz := zips_rd f e2 vs xss S2 hv h5
  refine ⟨A, c, rfl, hn, own_max h4.2, fun xs hx => ?_, hA, fun j xs hx => ?_⟩
  · obtain ⟨j, hj, rfl⟩ := List.mem_iff_getElem.1 hx
    obtain ⟨_, _, _, _, h, _⟩ := hz j _ (List.getElem?_eq_getElem hj)
    exact h
  · obtain ⟨B, c', h6, h7, _, h8⟩ := hz j xs hx
    refine ⟨_, ⟨B, c', rfl, h7, h8⟩, fun i u hu => ?_⟩
    cases i with
    | zero =>
      simp only [List.getElem?_cons_zero, Option.some.injEq] at hu
      subst hu
      have := hc j _ h6
      show w.cell? ((adr A).add (j * 1 + 0)) = _
      rwa [Nat.mul_one, Nat.add_zero]
    | succ i => simp at hu
end
section
variable {α : Type} {f : Fk α} {P : Program} {n : Nat} {Q : Post} {l : Fr} {w W0 : World} {L L1 L2 : List Ch} {ops : Array Oper} {rest : List Oper} {d : Nat} {x sx : Operand} {ty t e e2 : TypeId} {pos : String} {af : Array Edge} {v u : Value} {xs : List α} {xss : List (List α)}
/-- append(rows, row). -/
theorem wl_appRR {z : Value} {bytes b : Nat} (H : Holds W0 L w) (D1 : Del L (Row f e2 u xs) L1) (D2 : Del L1 (RR f e e2 v xss) L2) (hcell : w.cell? ⟨b, 0, none⟩ = some u) (hn : Nat.ble (d + 1) n = true)
    (ht : P.underlying t = some (.slice e)) (hi : (P.info? e).map (fun i => (i.zero, i.size, i.bytes)) = some (some z, 1, bytes)) (hz : z.cells.size = 1)
    (hs : ev l sx = some v) (hx : ev l x = some (.slice (some ⟨b, 0, none⟩) 1 1)) (hb : (xss.length + 1) * bytes ≤ 140737488355328) (hb0 : 0 < bytes)
    (h : ∀ A c w', Holds W0 (RR f e e2 (.slice A (xss ++ [xs]).length c) (xss ++ [xs]) :: L2) w' → w.heap.size ≤ w'.heap.size → wl P n ops rest Q ((d, .slice A (xss ++ [xs]).length c) :: l) w') : wl P n ops (⟨some d, .call { callee := .builtin .append, args := #[sx, x], argTypes := #[t, t] }, ty, pos, af, none⟩ :: rest) Q l w := by
  have H1 : Holds W0 (RR f e e2 v xss :: Row f e2 u xs :: L2) w := (H.turn D1).turn (.there _ D2)
  obtain ⟨vs, hv, H2⟩ := H1.rrOpen
  have hu1 : u.oneCell' = true := by
    obtain ⟨_, _, ho⟩ := H1.get (A := Row f e2 u xs) (.there _ (.here _ _ _))
    obtain ⟨A, c, rfl, _⟩ := own_slice ho.2
    rfl
  refine wl_append (L' := fun v' => (Raw e 1 v' (xss.length + 1) (vs ++ [u]) :: zips f e2 vs xss) ++ Row f e2 u xs :: L2) (cs := vs) (news := [u]) H2 (fun v' => .here _ _ _) hn ht hi hz (by omega) hs hx (fun _ => rfl) rfl (fun j u' hu => ?_) (fun u' hu => by rw [List.mem_singleton.1 hu]; exact hu1) hb hb0 (fun v' w' H' hsz => ?_)
  · cases j with
    | zero =>
      simp only [List.getElem?_cons_zero, Option.some.injEq] at hu
      subst hu
      exact hcell
    | succ j => simp at hu
  · have h3 : Holds W0 (RR f e e2 v' (xss ++ [xs]) :: L2) w' := by
      refine Holds.rrClose (vs := vs ++ [u]) (by simp [hv]) ?_
      rw [zips_app f e2 vs [u] xss [xs] hv, show (xss ++ [xs]).length = xss.length + 1 by simp]
      have : (Raw e 1 v' (xss.length + 1) (vs ++ [u]) :: (zips f e2 vs xss ++ zips f e2 [u] [xs])) ++ L2 = (Raw e 1 v' (xss.length + 1) (vs ++ [u]) :: zips f e2 vs xss) ++ Row f e2 u xs :: L2 := by
        simp [zips]
      rw [this]
      exact H'
    obtain ⟨A, c, rfl, _⟩ := h3.rr (.here _ _ _)
    exact h A c w' h3 hsz
end
end Go.Proofs.YtkpehkadammppaaFx
