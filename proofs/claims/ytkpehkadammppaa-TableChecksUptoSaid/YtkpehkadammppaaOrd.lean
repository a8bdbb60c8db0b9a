/- A region that draws its order: walked in an order of the prover's. -/
import Derived.Test.YtkpehkadammppaaHeld
set_option linter.unusedVariables false
namespace Go.Proofs.YtkpehkadammppaaFx
open Go Go.RowKit
section
variable {P : Program} {ops : Array Oper} {Q : Exit → Act → World → Prop} {S : World → Prop} {hs : List Nat}
def allH (ops : Array Oper) (hs : List Nat) (j : Nat) : Bool := hs.all fun i => match ops[j]? with
  | some o => o.after.any fun e => Region.binds .any e && e.on == i
  | none => false
def wpJ (P : Program) (ops : Array Oper) (Q : Exit → Act → World → Prop) (S : World → Prop) (hs : List Nat) : Nat → Array Bool → Act → World → Prop
  | 0, listed, a, w => Region.ready .any ops listed = [] ∧ Q .normal a w
  | g + 1, listed, a, w => (Region.ready .any ops listed = [] → Q .normal a w) ∧
    ∀ i ∈ Region.ready .any ops listed, wpOp P ops Q i (fun a' w' => (allH ops hs i = true ∨ S w') ∧ wpJ P ops Q S hs g (listed.setIfInBounds i true) a' w') a w
theorem wpJ_any : ∀ (g : Nat) (listed : Array Bool) (a : Act) (w : World), wpJ P ops Q S hs g listed a w → wpAny P .any ops Q g listed a w
  | 0, _, _, _, h => h
  | g + 1, _, _, _, h => ⟨h.1, fun i hi => wpOp_mono (fun a' w' h' => wpJ_any g _ a' w' h'.2) (h.2 i hi)⟩
theorem wpJ_first {i : Nat} {oi : Oper} {v : Value} (him : i ∈ hs) (hi : ops[i]? = some oi) (hsel : ∀ (j : Nat) (o : Oper) cs b, ops[j]? = some o → o.op ≠ .select cs b) (hQ : ∀ c a w, Q (.panic c) (a.put oi.dst v) w → Q (.panic c) a w) :
    ∀ (g : Nat) (listed : Array Bool) (a : Act) (w : World), (∀ j oj, ops[j]? = some oj → j ≠ i → listed.getD j true = false → (∀ e ∈ oj.after, Region.binds .any e = true → e.on ≠ i) → oi.apart ops oj = true) →
      i ∈ Region.ready .any ops listed → YieldsIf P ops S oi v a → S w → wpJ P ops Q S hs g (listed.setIfInBounds i true) (a.put oi.dst v) w → wpJ P ops Q S hs (g + 1) listed a w := by
  intro g
  induction g with
  | zero =>
    intro listed a w _ hr hy hS H
    refine ⟨fun h => (by rw [h] at hr; cases hr), fun j hj => ?_⟩
    rcases Nat.decEq j i with hji | hji
    · have := ready_mono hj hji
      rw [H.1] at this
      cases this
    · subst hji
      exact hy.wpOp hi hS ⟨.inr hS, H⟩
  | succ g ih =>
    intro listed a w hfree hr hy hS H
    refine ⟨fun h => (by rw [h] at hr; cases hr), fun j hj => ?_⟩
    rcases Nat.decEq j i with hji | hji
    · obtain ⟨hjun, oj, hoj, hall⟩ := mem_ready.1 hj
      have hnot : ∀ e ∈ oj.after, Region.binds .any e = true → e.on ≠ i := fun e he hb heq => by
        have h1 := hall e he hb
        have h0 := (mem_ready.1 hr).1
        rw [heq] at h1
        rcases Nat.lt_or_ge i listed.size with h' | h'
        · simp [h'] at h0 h1; rw [h0] at h1; cases h1
        · simp [Array.getElem?_eq_none h'] at h1
      have hna : ¬ allH ops hs j = true := fun hb => by
        unfold allH at hb
        have := List.all_eq_true.1 hb i him
        rw [hoj] at this
        obtain ⟨e, he, hbe⟩ := Array.any_eq_true'.1 this
        rw [Bool.and_eq_true] at hbe
        exact hnot e he hbe.1 (by simpa using hbe.2)
      have h2 := wpOp_putIf hoj (hfree j oj hoj hji hjun hnot) (fun cs b => hsel i oi cs b hi) (fun cs b => hsel j oj cs b hoj) hQ hy (H.2 j (ready_mono hj hji))
      refine wpOp_mono (fun a' w' h3 => ?_) h2
      have hS' : S w' := h3.2.1.resolve_left hna
      refine ⟨.inr hS', ih _ a' w' (fun k ok hk hki hun hno => hfree k ok hk hki ?_ hno) (ready_mono hr (Ne.symm hji)) h3.1 hS' ?_⟩
      · rcases Nat.decEq j k with hjk | hjk
        · rw [getD_set_ne true hjk] at hun; exact hun
        · subst hjk; exact hjun
      · rw [Array.setIfInBounds_comm _ _ hji]
        exact h3.2.2
    · subst hji
      exact hy.wpOp hi hS ⟨.inr hS, H⟩
def ordFrom (ops : Array Oper) (hs : List Nat) : List (Nat × Bool) → Array Bool → Bool
  | [], listed => (Region.ready .any ops listed).isEmpty
  | (k, true) :: r, listed => (Region.ready .any ops listed).contains k && Region.free .any ops listed k && hs.contains k && ordFrom ops hs r (listed.setIfInBounds k true)
  | (k, false) :: r, listed => Region.ready .any ops listed == [k] && ordFrom ops hs r (listed.setIfInBounds k true)
def headsOf (r : List (Nat × Bool)) : List Nat := r.filterMap fun x => if x.2 then some x.1 else none
def ordB (ops : Array Oper) (r : List (Nat × Bool)) : Bool := Region.noSelect ops && (r.length == ops.size) && ordFrom ops (headsOf r) r (Array.replicate ops.size false)
def wpO (P : Program) (ops : Array Oper) (Q : Exit → Act → World → Prop) (S : World → Prop) (hs : List Nat) : List (Nat × Bool) → Act → World → Prop
  | [], a, w => Q .normal a w
  | (k, true) :: r, a, w => ∃ o, ops[k]? = some o ∧ S w ∧ ∃ v, YieldsIf P ops S o v a ∧ wpO P ops Q S hs r (a.put o.dst v) w
  | (k, false) :: r, a, w => ∃ o, ops[k]? = some o ∧ if Region.wanted o (yielded ops a.tmps) then o.wp P a w (fun a' w' => (allH ops hs k = false → S w') ∧ wpO P ops Q S hs r a' w') Q ∨ (o.asks P a w ∧ LetsOut Q)
      else (allH ops hs k = false → S w) ∧ wpO P ops Q S hs r (a.put o.dst undef) w
theorem wpJ_of (hsn : Region.noSelect ops = true) (hQ : ∀ c a w, Q (.panic c) a w → False) : ∀ (r : List (Nat × Bool)) (listed : Array Bool) (a : Act) (w : World),
    ordFrom ops hs r listed = true → wpO P ops Q S hs r a w → wpJ P ops Q S hs r.length listed a w
  | [], _, _, _, hB, h => ⟨by simpa [ordFrom] using hB, h⟩
  | (k, true) :: r, listed, a, w, hB, h => by
    obtain ⟨o, h0, hS, v, hy, hK⟩ := h
    simp only [ordFrom, Bool.and_eq_true] at hB
    obtain ⟨⟨⟨hB1, hB2⟩, hB3⟩, hB4⟩ := hB
    exact wpJ_first (by simpa using hB3) h0 (Region.noSelect_spec hsn) (fun c a w hp => (hQ c _ w hp).elim) r.length listed a w (Region.free_spec h0 hB2) (by simpa using hB1) hy hS (wpJ_of hsn hQ r _ _ w hB4 hK)
  | (k, false) :: r, listed, a, w, hB, h => by
    obtain ⟨o, h0, h⟩ := h
    simp only [ordFrom, Bool.and_eq_true] at hB
    obtain ⟨hB1, hB2⟩ := hB
    have hr : Region.ready .any ops listed = [k] := by simpa using hB1
    have hall : allH ops hs k = true ∨ allH ops hs k = false := by cases allH ops hs k <;> simp
    refine ⟨fun h1 => (by rw [hr] at h1; cases h1), fun j hj => ?_⟩
    rw [hr, List.mem_singleton] at hj
    subst hj
    unfold wpOp
    simp only [h0]
    by_cases hw : Region.wanted o (yielded ops a.tmps) = true
    · rw [if_pos hw] at h ⊢
      exact h.imp (Oper.wp_mono fun a' w' hh => ⟨hall.imp id (fun h2 => hh.1 h2), wpJ_of hsn hQ r _ _ w' hB2 hh.2⟩) id
    · rw [if_neg hw] at h ⊢
      exact ⟨hall.imp id (fun h2 => h.1 h2), wpJ_of hsn hQ r _ _ w hB2 h.2⟩
end
section
variable {P : Program} {n : Nat} {Q : Post} {l : Fr} {w : World} {ops : Array Oper} {r : List (Nat × Bool)} {o : Oper} {S : World → Prop} {hs : List Nat} {k d : Nat} {v : Value}
def wo (P : Program) (n : Nat) (ops : Array Oper) (S : World → Prop) (Q : Post) (hs : List Nat) (r : List (Nat × Bool)) (l : Fr) (w : World) : Prop := ∀ a, Ag n l a → wpO P ops (up n Q) S hs r a w
theorem wc_ord {id : Nat} {ol : List Oper} (r : List (Nat × Bool)) (S : World → Prop) (hm : P.follows .mixedOrders = true) (hB : ordB ol.toArray r = true) (hQ : ∀ c l w, Q (.panic c) l w → False) (h : wo P n ol.toArray S Q (headsOf r) r l w.drew) : wc P n (.region id ol.toArray true) Q l w := fun a ha => by
  simp only [ordB, Bool.and_eq_true] at hB
  obtain ⟨⟨hB1, hB2⟩, hB3⟩ := hB
  have hl : r.length = ol.toArray.size := by simpa using hB2
  refine wp_region_any hm ?_
  rw [← hl]
  refine wpJ_any _ _ _ _ (wpJ_of (S := S) hB1 (fun c a w ⟨l, _, hq⟩ => hQ c l w hq) r _ a _ (by rw [hl]; exact hB3) (h a ha))
theorem wo_nil (h : Q .normal l w) : wo P n ops S Q hs [] l w := fun a ha => ⟨l, ha, h⟩
theorem wo_v (ho : ops[k]? = some o) (hS : S w) (hd : o.dst = some d) (hg : o.guard = none) (hn : Nat.ble (d + 1) n = true) (hv : ∀ W, S W → Vs P n l o W v) (h : wo P n ops S Q hs r ((d, v) :: l) w) : wo P n ops S Q hs ((k, true) :: r) l w := fun a ha => by
  refine ⟨o, ho, hS, v, .inl ⟨by simp [Region.wanted, hg], fun W hW => hv W hW a ha⟩, ?_⟩
  rw [hd]
  exact h _ (ha.put hn v)
theorem wo_vg {op : Op} {ty : TypeId} {pos : String} {af : Array Edge} {j dj : Nat} {b b' : Bool} (ho : ops[k]? = some { dst := some d, op := op, type := ty, pos := pos, after := af, guard := some (j, b) }) (hj : (ops[j]?).bind (·.dst) = some dj) (hb : lk l dj = some (.bool b')) (he : b' = b) (hS : S w) (hn : Nat.ble (d + 1) n = true)
    (hv : ∀ W, S W → Vs P n l { dst := some d, op := op, type := ty, pos := pos, after := af, guard := none } W v) (h : wo P n ops S Q hs r ((d, v) :: l) w) : wo P n ops S Q hs ((k, true) :: r) l w := fun a ha =>
  ⟨_, ho, hS, v, .inl ⟨by subst he; simp [Region.wanted, yielded_at ha hj hb], fun W hW => hv W hW a ha⟩, h _ (ha.put hn v)⟩
theorem wo_off {op : Op} {ty : TypeId} {pos : String} {af : Array Edge} {j dj : Nat} {b b' : Bool} (ho : ops[k]? = some { dst := some d, op := op, type := ty, pos := pos, after := af, guard := some (j, b) }) (hj : (ops[j]?).bind (·.dst) = some dj) (hb : lk l dj = some (.bool b')) (hne : b' = !b) (hS : S w) (hn : Nat.ble (d + 1) n = true)
    (h : wo P n ops S Q hs r ((d, undef) :: l) w) : wo P n ops S Q hs ((k, true) :: r) l w := fun a ha =>
  ⟨_, ho, hS, undef, .inr ⟨by simp [Region.wanted, yielded_at ha hj hb, hne], rfl⟩, h _ (ha.put hn _)⟩
theorem wo_offu {op : Op} {ty : TypeId} {pos : String} {af : Array Edge} {j dj : Nat} {b : Bool} (ho : ops[k]? = some { dst := some d, op := op, type := ty, pos := pos, after := af, guard := some (j, b) }) (hj : (ops[j]?).bind (·.dst) = some dj) (hb : lk l dj = some undef) (hS : S w) (hn : Nat.ble (d + 1) n = true)
    (h : wo P n ops S Q hs r ((d, undef) :: l) w) : wo P n ops S Q hs ((k, true) :: r) l w := fun a ha =>
  ⟨_, ho, hS, undef, .inr ⟨by simp [Region.wanted, yielded_un ha hj hb], rfl⟩, h _ (ha.put hn _)⟩
theorem wo_t (ho : ops[k]? = some o) (h : wl P n ops [o] (thenQ (fun l' w' => (allH ops hs k = false → S w') ∧ wo P n ops S Q hs r l' w') Q) l w) : wo P n ops S Q hs ((k, false) :: r) l w := fun a ha => by
  have h1 := h a ha
  refine ⟨o, ho, ?_⟩
  unfold wpList at h1
  by_cases hw : Region.wanted o (yielded ops a.tmps) = true
  · rw [if_pos hw] at h1 ⊢
    have hlo : LetsOut (up n (thenQ (fun l' w' => (allH ops hs k = false → S w') ∧ wo P n ops S Q hs r l' w') Q)) → LetsOut (up n Q) := fun ⟨a, w, hh⟩ => ⟨a, w, hh⟩
    refine h1.imp (fun h => ?_) (fun h => ⟨h.1, hlo h.2⟩)
    refine wp_swapQ (fun c a w hp => hp) hlo (Oper.wp_mono (fun a' w' hh => ?_) h)
    obtain ⟨l', hl, hS, hr⟩ := hh
    exact ⟨hS, hr a' hl⟩
  · rw [if_neg hw] at h1 ⊢
    obtain ⟨l', hl, hS, hr⟩ := h1
    exact ⟨hS, hr _ hl⟩
theorem wo_guard {dj : Nat} {p : Bool} (hb : lk l dj = some (.bool p)) (h1 : p = true → wo P n ops S Q hs r l w) (h2 : p = false → wo P n ops S Q hs r l w) : wo P n ops S Q hs r l w := by
  cases p
  · exact h2 rfl
  · exact h1 rfl
end
end Go.Proofs.YtkpehkadammppaaFx
