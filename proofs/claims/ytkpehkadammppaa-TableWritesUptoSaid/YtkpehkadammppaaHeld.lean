/- A region that draws its order: first what yields the same wherever S holds, then the rest in the text's order. -/
import Derived.Test.YtkpehkadammppaaRr
import Derived.OrdersHeld
set_option linter.unusedVariables false
namespace Go.Proofs.YtkpehkadammppaaFx
open Go Go.RowKit
section
variable {P : Program} {ops : Array Oper} {Q : Exit → Act → World → Prop} {S : World → Prop} {m m2 : Nat}
def allB (ops : Array Oper) (m j : Nat) : Bool := (List.range m).all fun i => match ops[j]? with
  | some o => o.after.any fun e => Region.binds .any e && e.on == i
  | none => false
/-- Whatever order comes, S holds behind each operation that does not wait for all the heads. -/
def wpK (P : Program) (ops : Array Oper) (Q : Exit → Act → World → Prop) (S : World → Prop) (m : Nat) : Nat → Array Bool → Act → World → Prop
  | 0, listed, a, w => Region.ready .any ops listed = [] ∧ Q .normal a w
  | g + 1, listed, a, w => (Region.ready .any ops listed = [] → Q .normal a w) ∧
    ∀ i ∈ Region.ready .any ops listed, wpOp P ops Q i (fun a' w' => (allB ops m i = true ∨ S w') ∧ wpK P ops Q S m g (listed.setIfInBounds i true) a' w') a w
theorem wpK_any : ∀ (g : Nat) (listed : Array Bool) (a : Act) (w : World), wpK P ops Q S m g listed a w → wpAny P .any ops Q g listed a w
  | 0, _, _, _, h => h
  | g + 1, _, _, _, h => ⟨h.1, fun i hi => wpOp_mono (fun a' w' h' => wpK_any g _ a' w' h'.2) (h.2 i hi)⟩
theorem wpK_first {i : Nat} {oi : Oper} {v : Value} (him : i < m) (hi : ops[i]? = some oi) (hsel : ∀ (j : Nat) (o : Oper) cs b, ops[j]? = some o → o.op ≠ .select cs b) (hQ : ∀ c a w, Q (.panic c) (a.put oi.dst v) w → Q (.panic c) a w) (hS0 : allB ops m i = true ∨ True) :
    ∀ (g : Nat) (listed : Array Bool) (a : Act) (w : World), (∀ j oj, ops[j]? = some oj → j ≠ i → listed.getD j true = false → (∀ e ∈ oj.after, Region.binds .any e = true → e.on ≠ i) → oi.apart ops oj = true) →
      i ∈ Region.ready .any ops listed → YieldsIf P ops S oi v a → S w → wpK P ops Q S m g (listed.setIfInBounds i true) (a.put oi.dst v) w → wpK P ops Q S m (g + 1) listed a w := by
  intro g
  induction g with
  | zero =>
    intro listed a w _ hr hy hS H
    refine ⟨fun h => (by rw [h] at hr; cases hr), fun j hj => ?_⟩
    rcases Nat.decEq j i with hji | hji
    · have := ready_mono hj hji
      rw [H.1] at this
      cases this
    · subst hji
      exact hy.wpOp hi hS ⟨.inr hS, H⟩
  | succ g ih =>
    intro listed a w hfree hr hy hS H
    refine ⟨fun h => (by rw [h] at hr; cases hr), fun j hj => ?_⟩
    rcases Nat.decEq j i with hji | hji
    · obtain ⟨hjun, oj, hoj, hall⟩ := mem_ready.1 hj
      have hnot : ∀ e ∈ oj.after, Region.binds .any e = true → e.on ≠ i := fun e he hb heq => by
        have h1 := hall e he hb
        have h0 := (mem_ready.1 hr).1
        rw [heq] at h1
        rcases Nat.lt_or_ge i listed.size with h' | h'
        · simp [h'] at h0 h1; rw [h0] at h1; cases h1
        · simp [Array.getElem?_eq_none h'] at h1
      have hna : ¬ allB ops m j = true := fun hb => by
        unfold allB at hb
        have := List.all_eq_true.1 hb i (List.mem_range.2 him)
        rw [hoj] at this
        obtain ⟨e, he, hbe⟩ := Array.any_eq_true'.1 this
        rw [Bool.and_eq_true] at hbe
        exact hnot e he hbe.1 (by simpa using hbe.2)
      have h2 := wpOp_putIf hoj (hfree j oj hoj hji hjun hnot) (fun cs b => hsel i oi cs b hi) (fun cs b => hsel j oj cs b hoj) hQ hy (H.2 j (ready_mono hj hji))
      refine wpOp_mono (fun a' w' h3 => ?_) h2
      have hS' : S w' := h3.2.1.resolve_left hna
      refine ⟨.inr hS', ih _ a' w' (fun k ok hk hki hun hno => hfree k ok hk hki ?_ hno) (ready_mono hr (Ne.symm hji)) h3.1 hS' ?_⟩
      · rcases Nat.decEq j k with hjk | hjk
        · rw [getD_set_ne true hjk] at hun; exact hun
        · subst hjk; exact hjun
      · rw [Array.setIfInBounds_comm _ _ hji]
        exact h3.2.2
    · subst hji
      exact hy.wpOp hi hS ⟨.inr hS, H⟩
/-- May the region be walked so: heads before m, from m2 on all wait for all the heads. -/
def heldFrom (ops : Array Oper) (m m2 : Nat) : Nat → Nat → Array Bool → Bool
  | 0, _, listed => (Region.ready .any ops listed).isEmpty
  | g + 1, k, listed => (if Nat.blt k m then (Region.ready .any ops listed).contains k && Region.free .any ops listed k else (Region.ready .any ops listed == [k]) && (Nat.blt k m2 || allB ops m k)) && heldFrom ops m m2 g (k + 1) (listed.setIfInBounds k true)
def heldB (ops : Array Oper) (m m2 : Nat) : Bool := Region.noSelect ops && heldFrom ops m m2 ops.size 0 (Array.replicate ops.size false)
/-- The walk. -/
def wpH (P : Program) (ops : Array Oper) (Q : Exit → Act → World → Prop) (S : World → Prop) (m m2 : Nat) : Nat → List Oper → Act → World → Prop
  | _, [], a, w => Q .normal a w
  | k, o :: rest, a, w => if Nat.blt k m = true then S w ∧ (∃ v, YieldsIf P ops S o v a ∧ wpH P ops Q S m m2 (k + 1) rest (a.put o.dst v) w)
    else if Region.wanted o (yielded ops a.tmps) then o.wp P a w (fun a' w' => (Nat.blt k m2 = true → S w') ∧ wpH P ops Q S m m2 (k + 1) rest a' w') Q ∨ (o.asks P a w ∧ LetsOut Q)
      else (Nat.blt k m2 = true → S w) ∧ wpH P ops Q S m m2 (k + 1) rest (a.put o.dst undef) w
theorem wpK_of (hs : Region.noSelect ops = true) (hQ : ∀ c a w, Q (.panic c) a w → False) : ∀ (l : List Oper) (k : Nat) (listed : Array Bool) (a : Act) (w : World), (∀ j, l[j]? = ops[k + j]?) →
    heldFrom ops m m2 l.length k listed = true → wpH P ops Q S m m2 k l a w → wpK P ops Q S m l.length listed a w
  | [], _, _, _, _, _, hB, h => ⟨by simpa [heldFrom] using hB, h⟩
  | o :: l, k, listed, a, w, hl, hB, h => by
    have h0 : ops[k]? = some o := by simpa using (hl 0).symm
    have hl' : ∀ j, l[j]? = ops[k + 1 + j]? := fun j => by have := hl (j + 1); simpa [Nat.add_assoc, Nat.add_comm 1 j] using this
    simp only [List.length_cons, heldFrom, Bool.and_eq_true] at hB
    obtain ⟨hB1, hB2⟩ := hB
    unfold wpH at h
    by_cases hk : Nat.blt k m = true
    · rw [if_pos hk] at h hB1
      obtain ⟨hS, v, hy, hK⟩ := h
      rw [Bool.and_eq_true] at hB1
      exact wpK_first (by simpa using hk) h0 (Region.noSelect_spec hs) (fun c a w hp => (hQ c _ w hp).elim) (.inr trivial) l.length listed a w (Region.free_spec h0 hB1.2) (by simpa using hB1.1) hy hS (wpK_of hs hQ l (k + 1) _ _ w hl' hB2 hK)
    · rw [if_neg hk] at h hB1
      rw [Bool.and_eq_true] at hB1
      have hr : Region.ready .any ops listed = [k] := by simpa using hB1.1
      have hall : allB ops m k = true ∨ Nat.blt k m2 = true := by
        have := hB1.2
        rw [Bool.or_eq_true] at this
        exact this.symm
      refine ⟨fun h1 => (by rw [hr] at h1; cases h1), fun j hj => ?_⟩
      rw [hr, List.mem_singleton] at hj
      subst hj
      unfold wpOp
      simp only [h0]
      by_cases hw : Region.wanted o (yielded ops a.tmps) = true
      · rw [if_pos hw] at h ⊢
        exact h.imp (Oper.wp_mono fun a' w' hh => ⟨hall.imp id (fun h2 => hh.1 h2), wpK_of hs hQ l (j + 1) _ _ w' hl' hB2 hh.2⟩) id
      · rw [if_neg hw] at h ⊢
        exact ⟨hall.imp id (fun h2 => h.1 h2), wpK_of hs hQ l (j + 1) _ _ w hl' hB2 h.2⟩
end
section
variable {P : Program} {n : Nat} {Q : Post} {l : Fr} {w : World} {ops : Array Oper} {rest : List Oper} {o : Oper} {S : World → Prop} {m m2 k d : Nat} {v : Value}
/-- The heads. -/
def wh (P : Program) (n : Nat) (ops : Array Oper) (S : World → Prop) (Q : Post) (m m2 k : Nat) (rest : List Oper) (l : Fr) (w : World) : Prop := ∀ a, Ag n l a → wpH P ops (up n Q) S m m2 k rest a w
theorem wc_held {id : Nat} {ol : List Oper} (m m2 : Nat) (S : World → Prop) (hm : P.follows .mixedOrders = true) (hB : heldB ol.toArray m m2 = true) (hQ : ∀ c l w, Q (.panic c) l w → False) (h : wh P n ol.toArray S Q m m2 0 ol l w.drew) : wc P n (.region id ol.toArray true) Q l w := fun a ha => by
  simp only [heldB, Bool.and_eq_true] at hB
  refine wp_region_any hm (wpK_any _ _ _ _ (wpK_of (S := S) (m := m) (m2 := m2) hB.1 (fun c a w ⟨l, _, hq⟩ => hQ c l w hq) ol.toArray.toList 0 _ a _ (by simp) (by simpa using hB.2) ?_))
  simpa using h a ha
theorem tn {K : Fr → World → Prop} (h : K l w) : thenQ K Q .normal l w := h
theorem wh_nil (h : Q .normal l w) : wh P n ops S Q m m2 k [] l w := fun a ha => ⟨l, ha, h⟩
theorem wh_v (hk : Nat.blt k m = true) (hS : S w) (hd : o.dst = some d) (hg : o.guard = none) (hn : Nat.ble (d + 1) n = true) (hv : ∀ W, S W → Vs P n l o W v) (h : wh P n ops S Q m m2 (k + 1) rest ((d, v) :: l) w) : wh P n ops S Q m m2 k (o :: rest) l w := fun a ha => by
  unfold wpH
  rw [if_pos hk]
  refine ⟨hS, v, .inl ⟨by simp [Region.wanted, hg], fun W hW => hv W hW a ha⟩, ?_⟩
  rw [hd]
  exact h _ (ha.put hn v)
theorem wp_swapQ {a : Act} {w : World} {K : Act → World → Prop} {Q1 Q2 : Exit → Act → World → Prop} (hp : ∀ c a w, Q1 (.panic c) a w → Q2 (.panic c) a w) (ho : LetsOut Q1 → LetsOut Q2) (h : o.wp P a w K Q1) : o.wp P a w K Q2 := by
  unfold Oper.wp at *
  generalize (execOp a.eval o).run P w = r at *
  cases r with
  | ok nx w' =>
    cases nx <;> simp only [Oper.upon] at h ⊢ <;>
      first
        | exact h
        | exact Calls.mono h (fun e w'' he => by cases e <;> first | exact he | exact hp _ _ _ he | exact ho he)
        | exact Rows.mono h (fun _ _ he => he)
  | halt x w' => cases x <;> simp only [Oper.upon] at h ⊢ <;> first | exact h | exact hp _ _ _ h
theorem wh_t (hk : Nat.blt k m = false) (h : wl P n ops [o] (thenQ (fun l' w' => (Nat.blt k m2 = true → S w') ∧ wh P n ops S Q m m2 (k + 1) rest l' w') Q) l w) : wh P n ops S Q m m2 k (o :: rest) l w := fun a ha => by
  have h1 := h a ha
  unfold wpH
  rw [if_neg (by rw [hk]; simp)]
  unfold wpList at h1
  by_cases hw : Region.wanted o (yielded ops a.tmps) = true
  · rw [if_pos hw] at h1 ⊢
    have hlo : LetsOut (up n (thenQ (fun l' w' => (Nat.blt k m2 = true → S w') ∧ wh P n ops S Q m m2 (k + 1) rest l' w') Q)) → LetsOut (up n Q) := fun ⟨a, w, hh⟩ => ⟨a, w, hh⟩
    refine h1.imp (fun h => ?_) (fun h => ⟨h.1, hlo h.2⟩)
    refine wp_swapQ (fun c a w hp => hp) hlo (Oper.wp_mono (fun a' w' hh => ?_) h)
    obtain ⟨l', hl, hS, hr⟩ := hh
    exact ⟨hS, hr a' hl⟩
  · rw [if_neg hw] at h1 ⊢
    obtain ⟨l', hl, hS, hr⟩ := h1
    exact ⟨hS, hr _ hl⟩
theorem oldN {cs cs' : List Value} {w : World} {b off k : Nat} (h : ∀ j v, cs[j]? = some v → w.cell? ⟨b, j, none⟩ = some v) (hcut : (cs.drop off).take k = cs') : ∀ j v, cs'[j]? = some v → w.cell? ((⟨b, off, none⟩ : Addr).add j) = some v := fun j v hv => by
  rw [Addr.add_lit]
  exact h _ v (cut_eq hcut j v hv)
theorem v_fn {fn : Fn} {d : Nat} {ty : TypeId} {pos : String} {af : Array Edge} {fs cs : List Operand} {vf vc : List Value} (hf : evs l fs = some vf) (hc : evs l cs = some vc) : Vs P n l ⟨some d, .makeFunc fn fs.toArray cs.toArray, ty, pos, af, none⟩ w (.func fn vf.toArray vc.toArray) :=
  v_func (fun a ha => by rw [List.map_toArray, ha.evals hf]) (fun a ha => by rw [List.map_toArray, ha.evals hc])
end
end Go.Proofs.YtkpehkadammppaaFx
