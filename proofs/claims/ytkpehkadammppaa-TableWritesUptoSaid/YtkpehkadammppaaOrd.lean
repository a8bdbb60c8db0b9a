/- A region that draws its order: walked in an order of the prover's. -/
import Derived.Test.YtkpehkadammppaaHeld
set_option linter.unusedVariables false
namespace Go.Proofs.YtkpehkadammppaaFx
open Go Go.RowKit
section
variable {P : Program} {ops : Array Oper} {Q : Exit → Act → World → Prop} {S : World → Prop} {hs : List Nat}
/-- Op j waits for op i, at once or by others. -/
def waits (ops : Array Oper) : Nat → Nat → Nat → Bool
  | 0, _, _ => false
  | f + 1, j, i => match ops[j]? with
    | some o => o.after.any fun e => Region.binds .any e && (e.on == i || waits ops f e.on i)
    | none => false
def allH (ops : Array Oper) (hs : List Nat) (j : Nat) : Bool := hs.all fun i => waits ops ops.size j i
def Closed (ops : Array Oper) (listed : Array Bool) : Prop := ∀ (j : Nat) (o : Oper), ops[j]? = some o → listed.getD j false = true → ∀ e ∈ o.after, Region.binds .any e = true → listed.getD e.on false = true
theorem waits_listed {listed : Array Bool} (hc : Closed ops listed) : ∀ (f j i : Nat) (o : Oper), ops[j]? = some o → (∀ e ∈ o.after, Region.binds .any e = true → listed.getD e.on false = true) → waits ops f j i = true → listed.getD i false = true
  | 0, _, _, _, _, _, h => by simp [waits] at h
  | f + 1, j, i, o, ho, hd, h => by
    unfold waits at h
    rw [ho] at h
    obtain ⟨e, he, hb⟩ := Array.any_eq_true'.1 h
    rw [Bool.and_eq_true, Bool.or_eq_true] at hb
    have h1 := hd e he hb.1
    rcases hb.2 with h2 | h2
    · rw [← (by simpa using h2 : e.on = i)]; exact h1
    · cases ho2 : ops[e.on]? with
      | none =>
        cases f with
        | zero => simp [waits] at h2
        | succ f => unfold waits at h2; rw [ho2] at h2; simp at h2
      | some o2 => exact waits_listed hc f e.on i o2 ho2 (hc e.on o2 ho2 h1) h2
theorem Closed.set {listed : Array Bool} (hc : Closed ops listed) {j : Nat} (hj : j ∈ Region.ready .any ops listed) : Closed ops (listed.setIfInBounds j true) := by
  intro q o ho hq e he hb
  obtain ⟨_, oj, hoj, hall⟩ := mem_ready.1 hj
  rcases Nat.decEq j q with hjq | hjq
  · rw [getD_set_ne false hjq] at hq
    exact getD_set_true (hc q o ho hq e he hb)
  · subst hjq
    rw [hoj] at ho
    injection ho with ho
    subst ho
    exact getD_set_true (hall e he hb)
def closedB (ops : Array Oper) (listed : Array Bool) : Bool := (List.range ops.size).all fun j => !listed.getD j false || (match ops[j]? with | some o => o.after.all (fun e => !Region.binds .any e || listed.getD e.on false) | none => true)
theorem closed_of {listed : Array Bool} (h : closedB ops listed = true) : Closed ops listed := by
  intro j o ho hj e he hb
  have hlt : j < ops.size := (Array.getElem?_eq_some_iff.1 ho).1
  have h1 := List.all_eq_true.1 h j (List.mem_range.2 hlt)
  rw [hj, ho] at h1
  simp only [Bool.not_true, Bool.false_or] at h1
  have h2 := Array.all_eq_true_iff_forall_mem.1 h1 e he
  rw [hb] at h2
  simpa using h2
def wpJ (P : Program) (ops : Array Oper) (Q : Exit → Act → World → Prop) (S : World → Prop) (hs : List Nat) : Nat → Array Bool → Act → World → Prop
  | 0, listed, a, w => Region.ready .any ops listed = [] ∧ Q .normal a w
  | g + 1, listed, a, w => (Region.ready .any ops listed = [] → Q .normal a w) ∧
    ∀ i ∈ Region.ready .any ops listed, wpOp P ops Q i (fun a' w' => (allH ops hs i = true ∨ S w') ∧ wpJ P ops Q S hs g (listed.setIfInBounds i true) a' w') a w
theorem wpJ_any : ∀ (g : Nat) (listed : Array Bool) (a : Act) (w : World), wpJ P ops Q S hs g listed a w → wpAny P .any ops Q g listed a w
  | 0, _, _, _, h => h
  | g + 1, _, _, _, h => ⟨h.1, fun i hi => wpOp_mono (fun a' w' h' => wpJ_any g _ a' w' h'.2) (h.2 i hi)⟩
theorem wpJ_first {i : Nat} {oi : Oper} {v : Value} (him : i ∈ hs) (hi : ops[i]? = some oi) (hsel : ∀ (j : Nat) (o : Oper) cs b, ops[j]? = some o → o.op ≠ .select cs b) (hQ : ∀ c a w, Q (.panic c) (a.put oi.dst v) w → Q (.panic c) a w) :
    ∀ (g : Nat) (listed : Array Bool) (a : Act) (w : World), (∀ j oj, ops[j]? = some oj → j ≠ i → listed.getD j true = false → (∀ e ∈ oj.after, Region.binds .any e = true → e.on ≠ i) → oi.apart ops oj = true) →
      i ∈ Region.ready .any ops listed → Closed ops listed → YieldsIf P ops S oi v a → S w → wpJ P ops Q S hs g (listed.setIfInBounds i true) (a.put oi.dst v) w → wpJ P ops Q S hs (g + 1) listed a w := by
  intro g
  induction g with
  | zero =>
    intro listed a w _ hr hcl hy hS H
    refine ⟨fun h => (by rw [h] at hr; cases hr), fun j hj => ?_⟩
    rcases Nat.decEq j i with hji | hji
    · have := ready_mono hj hji
      rw [H.1] at this
      cases this
    · subst hji
      exact hy.wpOp hi hS ⟨.inr hS, H⟩
  | succ g ih =>
    intro listed a w hfree hr hcl hy hS H
    refine ⟨fun h => (by rw [h] at hr; cases hr), fun j hj => ?_⟩
    rcases Nat.decEq j i with hji | hji
    · obtain ⟨hjun, oj, hoj, hall⟩ := mem_ready.1 hj
      have hnot : ∀ e ∈ oj.after, Region.binds .any e = true → e.on ≠ i := fun e he hb heq => by
        have h1 := hall e he hb
        have h0 := (mem_ready.1 hr).1
        rw [heq] at h1
        rcases Nat.lt_or_ge i listed.size with h' | h'
        · simp [h'] at h0 h1; rw [h0] at h1; cases h1
        · simp [Array.getElem?_eq_none h'] at h1
      have hna : ¬ allH ops hs j = true := fun hb => by
        unfold allH at hb
        have h1 := waits_listed hcl _ j i oj hoj hall (List.all_eq_true.1 hb i him)
        have h0 := (mem_ready.1 hr).1
        rcases Nat.lt_or_ge i listed.size with h' | h'
        · simp [h'] at h0 h1; rw [h0] at h1; cases h1
        · simp [Array.getElem?_eq_none h'] at h1
      have h2 := wpOp_putIf hoj (hfree j oj hoj hji hjun hnot) (fun cs b => hsel i oi cs b hi) (fun cs b => hsel j oj cs b hoj) hQ hy (H.2 j (ready_mono hj hji))
      refine wpOp_mono (fun a' w' h3 => ?_) h2
      have hS' : S w' := h3.2.1.resolve_left hna
      refine ⟨.inr hS', ih _ a' w' (fun k ok hk hki hun hno => hfree k ok hk hki ?_ hno) (ready_mono hr (Ne.symm hji)) (hcl.set hj) h3.1 hS' ?_⟩
      · rcases Nat.decEq j k with hjk | hjk
        · rw [getD_set_ne true hjk] at hun; exact hun
        · subst hjk; exact hjun
      · rw [Array.setIfInBounds_comm _ _ hji]
        exact h3.2.2
    · subst hji
      exact hy.wpOp hi hS ⟨.inr hS, H⟩
end
section
variable {P : Program} {n : Nat} {Q : Post} {l : Fr} {w : World} {ops : Array Oper} {o : Oper} {S : World → Prop} {hs : List Nat} {k d : Nat} {v : Value}
/-- The walk, step by step: each step tells which may come up. -/
def wj (P : Program) (n : Nat) (ops : Array Oper) (S : World → Prop) (Q : Post) (hs : List Nat) (g : Nat) (listed : Array Bool) (l : Fr) (w : World) : Prop := ∀ a, Ag n l a → wpJ P ops (up n Q) S hs g listed a w
variable {listed : Array Bool} {g : Nat}
theorem wc_tree {id : Nat} {ol : List Oper} (hs : List Nat) (S : World → Prop) (hm : P.follows .mixedOrders = true) (h : wj P n ol.toArray S Q hs ol.toArray.size (Array.replicate ol.toArray.size false) l w.drew) : wc P n (.region id ol.toArray true) Q l w := fun a ha =>
  wp_region_any hm (wpJ_any _ _ _ _ (h a ha))
theorem wj_done (hr : (Region.ready .any ops listed).isEmpty = true) (h : Q .normal l w) : wj P n ops S Q hs g listed l w := fun a ha => by
  have hr' : Region.ready .any ops listed = [] := by simpa using hr
  cases g with
  | zero => exact ⟨hr', l, ha, h⟩
  | succ g => exact ⟨fun _ => ⟨l, ha, h⟩, by rw [hr']; simp⟩
def headOk (ops : Array Oper) (hs : List Nat) (listed : Array Bool) (k : Nat) : Bool := Region.noSelect ops && (Region.ready .any ops listed).contains k && Region.free .any ops listed k && hs.contains k && closedB ops listed
theorem wj_y {k : Nat} {o : Oper} {v : Value} (ho : ops[k]? = some o) (hB : headOk ops hs listed k = true) (hQ : ∀ c l w, Q (.panic c) l w → False) (hS : S w) (hy : ∀ a, Ag n l a → YieldsIf P ops S o v a) (hd : o.dst = some d) (hn : Nat.ble (d + 1) n = true)
    (h : wj P n ops S Q hs g (listed.setIfInBounds k true) ((d, v) :: l) w) : wj P n ops S Q hs (g + 1) listed l w := fun a ha => by
  simp only [headOk, Bool.and_eq_true] at hB
  obtain ⟨⟨⟨⟨h0, h1⟩, h2⟩, h3⟩, h4⟩ := hB
  refine wpJ_first (by simpa using h3) ho (Region.noSelect_spec h0) (fun c a w ⟨l, _, hp⟩ => (hQ c l w hp).elim) g listed a w (Region.free_spec ho h2) (by simpa using h1) (closed_of h4) (hy a ha) hS ?_
  rw [hd]
  exact h _ (ha.put hn v)
theorem wj_v (ho : ops[k]? = some o) (hB : headOk ops hs listed k = true) (hQ : ∀ c l w, Q (.panic c) l w → False) (hS : S w) (hd : o.dst = some d) (hg : o.guard = none) (hn : Nat.ble (d + 1) n = true) (hv : ∀ W, S W → Vs P n l o W v) (h : wj P n ops S Q hs g (listed.setIfInBounds k true) ((d, v) :: l) w) : wj P n ops S Q hs (g + 1) listed l w :=
  wj_y ho hB hQ hS (fun a ha => .inl ⟨by simp [Region.wanted, hg], fun W hW => hv W hW a ha⟩) hd hn h
theorem wj_vg {op : Op} {ty : TypeId} {pos : String} {af : Array Edge} {j dj : Nat} {b b' : Bool} (ho : ops[k]? = some { dst := some d, op := op, type := ty, pos := pos, after := af, guard := some (j, b) }) (hB : headOk ops hs listed k = true) (hQ : ∀ c l w, Q (.panic c) l w → False) (hj : (ops[j]?).bind (·.dst) = some dj) (hb : lk l dj = some (.bool b')) (he : b' = b) (hS : S w) (hn : Nat.ble (d + 1) n = true)
    (hv : ∀ W, S W → Vs P n l { dst := some d, op := op, type := ty, pos := pos, after := af, guard := none } W v) (h : wj P n ops S Q hs g (listed.setIfInBounds k true) ((d, v) :: l) w) : wj P n ops S Q hs (g + 1) listed l w :=
  wj_y ho hB hQ hS (fun a ha => .inl ⟨by subst he; simp [Region.wanted, yielded_at ha hj hb], fun W hW => hv W hW a ha⟩) rfl hn h
theorem wj_off {op : Op} {ty : TypeId} {pos : String} {af : Array Edge} {j dj : Nat} {b b' : Bool} (ho : ops[k]? = some { dst := some d, op := op, type := ty, pos := pos, after := af, guard := some (j, b) }) (hB : headOk ops hs listed k = true) (hQ : ∀ c l w, Q (.panic c) l w → False) (hj : (ops[j]?).bind (·.dst) = some dj) (hb : lk l dj = some (.bool b')) (hne : b' = !b) (hS : S w) (hn : Nat.ble (d + 1) n = true)
    (h : wj P n ops S Q hs g (listed.setIfInBounds k true) ((d, undef) :: l) w) : wj P n ops S Q hs (g + 1) listed l w :=
  wj_y ho hB hQ hS (fun a ha => .inr ⟨by simp [Region.wanted, yielded_at ha hj hb, hne], rfl⟩) rfl hn h
theorem wj_offu {op : Op} {ty : TypeId} {pos : String} {af : Array Edge} {j dj : Nat} {b : Bool} (ho : ops[k]? = some { dst := some d, op := op, type := ty, pos := pos, after := af, guard := some (j, b) }) (hB : headOk ops hs listed k = true) (hQ : ∀ c l w, Q (.panic c) l w → False) (hj : (ops[j]?).bind (·.dst) = some dj) (hb : lk l dj = some undef) (hS : S w) (hn : Nat.ble (d + 1) n = true)
    (h : wj P n ops S Q hs g (listed.setIfInBounds k true) ((d, undef) :: l) w) : wj P n ops S Q hs (g + 1) listed l w :=
  wj_y ho hB hQ hS (fun a ha => .inr ⟨by simp [Region.wanted, yielded_un ha hj hb], rfl⟩) rfl hn h
theorem wj_guard {dj : Nat} {p : Bool} (hb : lk l dj = some (.bool p)) (h1 : p = true → wj P n ops S Q hs g listed l w) (h2 : p = false → wj P n ops S Q hs g listed l w) : wj P n ops S Q hs g listed l w := by
  cases p
  · exact h2 rfl
  · exact h1 rfl
theorem wj_op (ho : ops[k]? = some o) (h : wl P n ops [o] (thenQ (fun l' w' => (allH ops hs k = false → S w') ∧ wj P n ops S Q hs g (listed.setIfInBounds k true) l' w') Q) l w) : ∀ a, Ag n l a → wpOp P ops (up n Q) k (fun a' w' => (allH ops hs k = true ∨ S w') ∧ wpJ P ops (up n Q) S hs g (listed.setIfInBounds k true) a' w') a w := fun a ha => by
  have h1 := h a ha
  have hall : ∀ {w' : World}, (allH ops hs k = false → S w') → allH ops hs k = true ∨ S w' := fun hh => by
    cases e : allH ops hs k
    · exact .inr (hh e)
    · exact .inl rfl
  unfold wpOp
  simp only [ho]
  unfold wpList at h1
  by_cases hw : Region.wanted o (yielded ops a.tmps) = true
  · rw [if_pos hw] at h1 ⊢
    have hlo : LetsOut (up n (thenQ (fun l' w' => (allH ops hs k = false → S w') ∧ wj P n ops S Q hs g (listed.setIfInBounds k true) l' w') Q)) → LetsOut (up n Q) := fun ⟨a, w, hh⟩ => ⟨a, w, hh⟩
    refine h1.imp (fun h => ?_) (fun h => ⟨h.1, hlo h.2⟩)
    refine wp_swapQ (fun c a w hp => hp) hlo (Oper.wp_mono (fun a' w' hh => ?_) h)
    obtain ⟨l', hl, hS, hr⟩ := hh
    exact ⟨hall hS, hr a' hl⟩
  · rw [if_neg hw] at h1 ⊢
    obtain ⟨l', hl, hS, hr⟩ := h1
    exact ⟨hall hS, hr _ hl⟩
theorem wj_t (ho : ops[k]? = some o) (hr : (Region.ready .any ops listed == [k]) = true) (h : wl P n ops [o] (thenQ (fun l' w' => (allH ops hs k = false → S w') ∧ wj P n ops S Q hs g (listed.setIfInBounds k true) l' w') Q) l w) : wj P n ops S Q hs (g + 1) listed l w := fun a ha => by
  have hr' : Region.ready .any ops listed = [k] := by simpa using hr
  refine ⟨fun h1 => (by rw [hr'] at h1; cases h1), fun j hj => ?_⟩
  rw [hr', List.mem_singleton] at hj
  subst hj
  exact wj_op ho h a ha
theorem wj_2 {k2 : Nat} {o2 : Oper} (ho : ops[k]? = some o) (ho2 : ops[k2]? = some o2) (hr : (Region.ready .any ops listed == [k, k2]) = true) (h : wl P n ops [o] (thenQ (fun l' w' => (allH ops hs k = false → S w') ∧ wj P n ops S Q hs g (listed.setIfInBounds k true) l' w') Q) l w)
    (h2 : wl P n ops [o2] (thenQ (fun l' w' => (allH ops hs k2 = false → S w') ∧ wj P n ops S Q hs g (listed.setIfInBounds k2 true) l' w') Q) l w) : wj P n ops S Q hs (g + 1) listed l w := fun a ha => by
  have hr' : Region.ready .any ops listed = [k, k2] := by simpa using hr
  refine ⟨fun h1 => (by rw [hr'] at h1; cases h1), fun j hj => ?_⟩
  rw [hr'] at hj
  simp only [List.mem_cons, List.not_mem_nil, or_false] at hj
  rcases hj with rfl | rfl
  · exact wj_op ho h a ha
  · exact wj_op ho2 h2 a ha
end
end Go.Proofs.YtkpehkadammppaaFx
