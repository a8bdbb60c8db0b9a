/- A region that draws its order: walked in an order of the prover's. Does every way to a state end with a production's symbols? Is a state as it should be? A step laid down. The steps to each state. Shifts. -/
import Derived.Test.YtkpehkadammppaaK02
import Derived.Test.YtkpehkadammppaaProg
set_option linter.unusedVariables false
set_option linter.unusedSimpArgs false
/-! A region that draws its order: walked in an order of the prover's. -/
namespace Go.Proofs.YtkpehkadammppaaFx
open Go Go.RowKit
section
variable {P : Program} {ops : Array Oper} {Q : Exit → Act → World → Prop} {S : World → Prop} {hs : List Nat}
/-- Op j waits for op i, at once or by others. -/
def waits (ops : Array Oper) : Nat → Nat → Nat → Bool
  | 0, _, _ => false
  | f + 1, j, i => match ops[j]? with
    | some o => o.after.any fun e => Region.binds .any e && (e.on == i || waits ops f e.on i)
    | none => false
def allH (ops : Array Oper) (hs : List Nat) (j : Nat) : Bool := hs.all fun i => waits ops ops.size j i
def Closed (ops : Array Oper) (listed : Array Bool) : Prop := ∀ (j : Nat) (o : Oper), ops[j]? = some o → listed.getD j false = true → ∀ e ∈ o.after, Region.binds .any e = true → listed.getD e.on false = true
theorem waits_listed {listed : Array Bool} (hc : Closed ops listed) : ∀ (f j i : Nat) (o : Oper), ops[j]? = some o → (∀ e ∈ o.after, Region.binds .any e = true → listed.getD e.on false = true) → waits ops f j i = true → listed.getD i false = true
  | 0, _, _, _, _, _, h => by simp [waits] at h
  | f + 1, j, i, o, ho, hd, h => by
    unfold waits at h
    rw [ho] at h
    obtain ⟨e, he, hb⟩ := Array.any_eq_true'.1 h
    rw [Bool.and_eq_true, Bool.or_eq_true] at hb
    have h1 := hd e he hb.1
    rcases hb.2 with h2 | h2
    · rw [← (by simpa using h2 : e.on = i)]; exact h1
    · cases ho2 : ops[e.on]? with
      | none =>
        cases f with
        | zero => simp [waits] at h2
        | succ f => unfold waits at h2; rw [ho2] at h2; simp at h2
      | some o2 => exact waits_listed hc f e.on i o2 ho2 (hc e.on o2 ho2 h1) h2
theorem Closed.set {listed : Array Bool} (hc : Closed ops listed) {j : Nat} (hj : j ∈ Region.ready .any ops listed) : Closed ops (listed.setIfInBounds j true) := by
  intro q o ho hq e he hb
  obtain ⟨_, oj, hoj, hall⟩ := mem_ready.1 hj
  rcases Nat.decEq j q with hjq | hjq
  · rw [getD_set_ne false hjq] at hq
    exact getD_set_true (hc q o ho hq e he hb)
  · subst hjq
    rw [hoj] at ho
    injection ho with ho
    subst ho
    exact getD_set_true (hall e he hb)
def closedB (ops : Array Oper) (listed : Array Bool) : Bool := (List.range ops.size).all fun j => !listed.getD j false || (match ops[j]? with | some o => o.after.all (fun e => !Region.binds .any e || listed.getD e.on false) | none => true)
theorem closed_of {listed : Array Bool} (h : closedB ops listed = true) : Closed ops listed := by
  intro j o ho hj e he hb
  have hlt : j < ops.size := (Array.getElem?_eq_some_iff.1 ho).1
  have h1 := List.all_eq_true.1 h j (List.mem_range.2 hlt)
  rw [hj, ho] at h1
  simp only [Bool.not_true, Bool.false_or] at h1
  have h2 := Array.all_eq_true_iff_forall_mem.1 h1 e he
  rw [hb] at h2
  simpa using h2
def wpJ (P : Program) (ops : Array Oper) (Q : Exit → Act → World → Prop) (S : World → Prop) (hs : List Nat) : Nat → Array Bool → Act → World → Prop
  | 0, listed, a, w => Region.ready .any ops listed = [] ∧ Q .normal a w
  | g + 1, listed, a, w => (Region.ready .any ops listed = [] → Q .normal a w) ∧
    ∀ i ∈ Region.ready .any ops listed, wpOp P ops Q i (fun a' w' => (allH ops hs i = true ∨ S w') ∧ wpJ P ops Q S hs g (listed.setIfInBounds i true) a' w') a w
theorem wpJ_any : ∀ (g : Nat) (listed : Array Bool) (a : Act) (w : World), wpJ P ops Q S hs g listed a w → wpAny P .any ops Q g listed a w
  | 0, _, _, _, h => h
  | g + 1, _, _, _, h => ⟨h.1, fun i hi => wpOp_mono (fun a' w' h' => wpJ_any g _ a' w' h'.2) (h.2 i hi)⟩
theorem wpJ_first {i : Nat} {oi : Oper} {v : Value} (him : i ∈ hs) (hi : ops[i]? = some oi) (hsel : ∀ (j : Nat) (o : Oper) cs b, ops[j]? = some o → o.op ≠ .select cs b) (hQ : ∀ c a w, Q (.panic c) (a.put oi.dst v) w → Q (.panic c) a w) :
    ∀ (g : Nat) (listed : Array Bool) (a : Act) (w : World), (∀ j oj, ops[j]? = some oj → j ≠ i → listed.getD j true = false → (∀ e ∈ oj.after, Region.binds .any e = true → e.on ≠ i) → oi.apart ops oj = true) →
      i ∈ Region.ready .any ops listed → Closed ops listed → YieldsIf P ops S oi v a → S w → wpJ P ops Q S hs g (listed.setIfInBounds i true) (a.put oi.dst v) w → wpJ P ops Q S hs (g + 1) listed a w := by
  intro g
  induction g with
  | zero =>
    intro listed a w _ hr hcl hy hS H
    refine ⟨fun h => (by rw [h] at hr; cases hr), fun j hj => ?_⟩
    rcases Nat.decEq j i with hji | hji
    · have := ready_mono hj hji
      rw [H.1] at this
      cases this
    · subst hji
      exact hy.wpOp hi hS ⟨.inr hS, H⟩
  | succ g ih =>
    intro listed a w hfree hr hcl hy hS H
    refine ⟨fun h => (by rw [h] at hr; cases hr), fun j hj => ?_⟩
    rcases Nat.decEq j i with hji | hji
    · obtain ⟨hjun, oj, hoj, hall⟩ := mem_ready.1 hj
      have hnot : ∀ e ∈ oj.after, Region.binds .any e = true → e.on ≠ i := fun e he hb heq => by
        have h1 := hall e he hb
        have h0 := (mem_ready.1 hr).1
        rw [heq] at h1
        rcases Nat.lt_or_ge i listed.size with h' | h'
        · simp [h'] at h0 h1; rw [h0] at h1; cases h1
        · simp [Array.getElem?_eq_none h'] at h1
      have hna : ¬ allH ops hs j = true := fun hb => by
        unfold allH at hb
        have h1 := waits_listed hcl _ j i oj hoj hall (List.all_eq_true.1 hb i him)
        have h0 := (mem_ready.1 hr).1
        rcases Nat.lt_or_ge i listed.size with h' | h'
        · simp [h'] at h0 h1; rw [h0] at h1; cases h1
        · simp [Array.getElem?_eq_none h'] at h1
      have h2 := wpOp_putIf hoj (hfree j oj hoj hji hjun hnot) (fun cs b => hsel i oi cs b hi) (fun cs b => hsel j oj cs b hoj) hQ hy (H.2 j (ready_mono hj hji))
      refine wpOp_mono (fun a' w' h3 => ?_) h2
      have hS' : S w' := h3.2.1.resolve_left hna
      refine ⟨.inr hS', ih _ a' w' (fun k ok hk hki hun hno => hfree k ok hk hki ?_ hno) (ready_mono hr (Ne.symm hji)) (hcl.set hj) h3.1 hS' ?_⟩
      · rcases Nat.decEq j k with hjk | hjk
        · rw [getD_set_ne true hjk] at hun; exact hun
        · subst hjk; exact hjun
      · rw [Array.setIfInBounds_comm _ _ hji]
        exact h3.2.2
    · subst hji
      exact hy.wpOp hi hS ⟨.inr hS, H⟩
end
section
variable {P : Program} {n : Nat} {Q : Post} {l : Fr} {w : World} {ops : Array Oper} {o : Oper} {S : World → Prop} {hs : List Nat} {k d : Nat} {v : Value}
/-- The walk, step by step: each step tells which may come up. -/
def wj (P : Program) (n : Nat) (ops : Array Oper) (S : World → Prop) (Q : Post) (hs : List Nat) (g : Nat) (listed : Array Bool) (l : Fr) (w : World) : Prop := ∀ a, Ag n l a → wpJ P ops (up n Q) S hs g listed a w
variable {listed : Array Bool} {g : Nat}
theorem wc_tree {id : Nat} {ol : List Oper} (hs : List Nat) (S : World → Prop) (hm : P.follows .mixedOrders = true) (h : wj P n ol.toArray S Q hs ol.toArray.size (Array.replicate ol.toArray.size false) l w.drew) : wc P n (.region id ol.toArray true) Q l w := fun a ha =>
  wp_region_any hm (wpJ_any _ _ _ _ (h a ha))
theorem wj_done (hr : (Region.ready .any ops listed).isEmpty = true) (h : Q .normal l w) : wj P n ops S Q hs g listed l w := fun a ha => by
  have hr' : Region.ready .any ops listed = [] := by simpa using hr
  cases g with
  | zero => exact ⟨hr', l, ha, h⟩
  | succ g => exact ⟨fun _ => ⟨l, ha, h⟩, by rw [hr']; simp⟩
def headOk (ops : Array Oper) (hs : List Nat) (listed : Array Bool) (k : Nat) : Bool := Region.noSelect ops && (Region.ready .any ops listed).contains k && Region.free .any ops listed k && hs.contains k && closedB ops listed
theorem wj_y {k : Nat} {o : Oper} {v : Value} (ho : ops[k]? = some o) (hB : headOk ops hs listed k = true) (hQ : ∀ c l w, Q (.panic c) l w → False) (hS : S w) (hy : ∀ a, Ag n l a → YieldsIf P ops S o v a) (hd : o.dst = some d) (hn : Nat.ble (d + 1) n = true)
    (h : wj P n ops S Q hs g (listed.setIfInBounds k true) ((d, v) :: l) w) : wj P n ops S Q hs (g + 1) listed l w := fun a ha => by
  simp only [headOk, Bool.and_eq_true] at hB
  obtain ⟨⟨⟨⟨h0, h1⟩, h2⟩, h3⟩, h4⟩ := hB
  refine wpJ_first (by simpa using h3) ho (Region.noSelect_spec h0) (fun c a w ⟨l, _, hp⟩ => (hQ c l w hp).elim) g listed a w (Region.free_spec ho h2) (by simpa using h1) (closed_of h4) (hy a ha) hS ?_
  rw [hd]
  exact h _ (ha.put hn v)
theorem wj_v (ho : ops[k]? = some o) (hB : headOk ops hs listed k = true) (hQ : ∀ c l w, Q (.panic c) l w → False) (hS : S w) (hd : o.dst = some d) (hg : o.guard = none) (hn : Nat.ble (d + 1) n = true) (hv : ∀ W, S W → Vs P n l o W v) (h : wj P n ops S Q hs g (listed.setIfInBounds k true) ((d, v) :: l) w) : wj P n ops S Q hs (g + 1) listed l w :=
  wj_y ho hB hQ hS (fun a ha => .inl ⟨by simp [Region.wanted, hg], fun W hW => hv W hW a ha⟩) hd hn h
theorem wj_vg {op : Op} {ty : TypeId} {pos : String} {af : Array Edge} {j dj : Nat} {b b' : Bool} (ho : ops[k]? = some { dst := some d, op := op, type := ty, pos := pos, after := af, guard := some (j, b) }) (hB : headOk ops hs listed k = true) (hQ : ∀ c l w, Q (.panic c) l w → False) (hj : (ops[j]?).bind (·.dst) = some dj) (hb : lk l dj = some (.bool b')) (he : b' = b) (hS : S w) (hn : Nat.ble (d + 1) n = true)
    (hv : ∀ W, S W → Vs P n l { dst := some d, op := op, type := ty, pos := pos, after := af, guard := none } W v) (h : wj P n ops S Q hs g (listed.setIfInBounds k true) ((d, v) :: l) w) : wj P n ops S Q hs (g + 1) listed l w :=
  wj_y ho hB hQ hS (fun a ha => .inl ⟨by subst he; simp [Region.wanted, yielded_at ha hj hb], fun W hW => hv W hW a ha⟩) rfl hn h
theorem wj_off {op : Op} {ty : TypeId} {pos : String} {af : Array Edge} {j dj : Nat} {b b' : Bool} (ho : ops[k]? = some { dst := some d, op := op, type := ty, pos := pos, after := af, guard := some (j, b) }) (hB : headOk ops hs listed k = true) (hQ : ∀ c l w, Q (.panic c) l w → False) (hj : (ops[j]?).bind (·.dst) = some dj) (hb : lk l dj = some (.bool b')) (hne : b' = !b) (hS : S w) (hn : Nat.ble (d + 1) n = true)
    (h : wj P n ops S Q hs g (listed.setIfInBounds k true) ((d, undef) :: l) w) : wj P n ops S Q hs (g + 1) listed l w :=
  wj_y ho hB hQ hS (fun a ha => .inr ⟨by simp [Region.wanted, yielded_at ha hj hb, hne], rfl⟩) rfl hn h
theorem wj_offu {op : Op} {ty : TypeId} {pos : String} {af : Array Edge} {j dj : Nat} {b : Bool} (ho : ops[k]? = some { dst := some d, op := op, type := ty, pos := pos, after := af, guard := some (j, b) }) (hB : headOk ops hs listed k = true) (hQ : ∀ c l w, Q (.panic c) l w → False) (hj : (ops[j]?).bind (·.dst) = some dj) (hb : lk l dj = some undef) (hS : S w) (hn : Nat.ble (d + 1) n = true)
    (h : wj P n ops S Q hs g (listed.setIfInBounds k true) ((d, undef) :: l) w) : wj P n ops S Q hs (g + 1) listed l w :=
  wj_y ho hB hQ hS (fun a ha => .inr ⟨by simp [Region.wanted, yielded_un ha hj hb], rfl⟩) rfl hn h
theorem wj_guard {dj : Nat} {p : Bool} (hb : lk l dj = some (.bool p)) (h1 : p = true → wj P n ops S Q hs g listed l w) (h2 : p = false → wj P n ops S Q hs g listed l w) : wj P n ops S Q hs g listed l w := by
  cases p
  · exact h2 rfl
  · exact h1 rfl
theorem wj_op (ho : ops[k]? = some o) (h : wl P n ops [o] (thenQ (fun l' w' => (allH ops hs k = false → S w') ∧ wj P n ops S Q hs g (listed.setIfInBounds k true) l' w') Q) l w) : ∀ a, Ag n l a → wpOp P ops (up n Q) k (fun a' w' => (allH ops hs k = true ∨ S w') ∧ wpJ P ops (up n Q) S hs g (listed.setIfInBounds k true) a' w') a w := fun a ha => by
  have h1 := h a ha
  have hall : ∀ {w' : World}, (allH ops hs k = false → S w') → allH ops hs k = true ∨ S w' := fun hh => by
    cases e : allH ops hs k
    · exact .inr (hh e)
    · exact .inl rfl
  unfold wpOp
  simp only [ho]
  unfold wpList at h1
  by_cases hw : Region.wanted o (yielded ops a.tmps) = true
  · rw [if_pos hw] at h1 ⊢
    have hlo : LetsOut (up n (thenQ (fun l' w' => (allH ops hs k = false → S w') ∧ wj P n ops S Q hs g (listed.setIfInBounds k true) l' w') Q)) → LetsOut (up n Q) := fun ⟨a, w, hh⟩ => ⟨a, w, hh⟩
    refine h1.imp (fun h => ?_) (fun h => ⟨h.1, hlo h.2⟩)
    refine wp_swapQ (fun c a w hp => hp) hlo (Oper.wp_mono (fun a' w' hh => ?_) h)
    obtain ⟨l', hl, hS, hr⟩ := hh
    exact ⟨hall hS, hr a' hl⟩
  · rw [if_neg hw] at h1 ⊢
    obtain ⟨l', hl, hS, hr⟩ := h1
    exact ⟨hall hS, hr _ hl⟩
theorem wj_t (ho : ops[k]? = some o) (hr : (Region.ready .any ops listed == [k]) = true) (h : wl P n ops [o] (thenQ (fun l' w' => (allH ops hs k = false → S w') ∧ wj P n ops S Q hs g (listed.setIfInBounds k true) l' w') Q) l w) : wj P n ops S Q hs (g + 1) listed l w := fun a ha => by
  have hr' : Region.ready .any ops listed = [k] := by simpa using hr
  refine ⟨fun h1 => (by rw [hr'] at h1; cases h1), fun j hj => ?_⟩
  rw [hr', List.mem_singleton] at hj
  subst hj
  exact wj_op ho h a ha
theorem wj_2 {k2 : Nat} {o2 : Oper} (ho : ops[k]? = some o) (ho2 : ops[k2]? = some o2) (hr : (Region.ready .any ops listed == [k, k2]) = true) (h : wl P n ops [o] (thenQ (fun l' w' => (allH ops hs k = false → S w') ∧ wj P n ops S Q hs g (listed.setIfInBounds k true) l' w') Q) l w)
    (h2 : wl P n ops [o2] (thenQ (fun l' w' => (allH ops hs k2 = false → S w') ∧ wj P n ops S Q hs g (listed.setIfInBounds k2 true) l' w') Q) l w) : wj P n ops S Q hs (g + 1) listed l w := fun a ha => by
  have hr' : Region.ready .any ops listed = [k, k2] := by simpa using hr
  refine ⟨fun h1 => (by rw [hr'] at h1; cases h1), fun j hj => ?_⟩
  rw [hr'] at hj
  simp only [List.mem_cons, List.not_mem_nil, or_false] at hj
  rcases hj with rfl | rfl
  · exact wj_op ho h a ha
  · exact wj_op ho2 h2 a ha
end
end Go.Proofs.YtkpehkadammppaaFx

/-! Does every way to a state end with a production's symbols? -/
namespace Go.Proofs.Ytkpehkadammppaa.EndsW
open Go Go.RowKit Go.Proofs.YtkpehkadammppaaFx 
theorem agg134 : Agg Try.prog 134 2 := agg_of Try.underlying134 (by kernel_rfl)
theorem fa130_0 : FieldAt Try.prog 130 0 0 := field_at (sz := 0) Try.underlying130 rfl (by kernel_rfl) rfl
theorem fa130_1 : FieldAt Try.prog 130 1 1 := field_at (sz := 0) Try.underlying130 rfl (by kernel_rfl) rfl
theorem fa134_0 : FieldAt Try.prog 134 0 0 := field_at (sz := 0) Try.underlying134 rfl (by kernel_rfl) rfl
theorem fa134_1 : FieldAt Try.prog 134 1 1 := field_at (sz := 0) Try.underlying134 rfl (by kernel_rfl) rfl
theorem fa25_1 : FieldAt Try.prog 25 1 1 := field_at (sz := 0) Try.underlying25 rfl (by kernel_rfl) rfl
theorem fa53_3 : FieldAt Try.prog 53 3 3 := field_at (sz := 0) Try.underlying53 rfl (by kernel_rfl) rfl
theorem mixed : Try.prog.follows .mixedOrders = true := by kernel_rfl
theorem one132 : One Try.prog 132 := one_of Try.underlying132 rfl (by kernel_rfl)
theorem one23 : One Try.prog 23 := one_of Try.underlying23 rfl (by kernel_rfl)
theorem one3 : One Try.prog 3 := one_of Try.underlying3 rfl (by kernel_rfl)
theorem one39 : One Try.prog 39 := one_of Try.underlying39 rfl (by kernel_rfl)
theorem one51 : One Try.prog 51 := one_of Try.underlying51 rfl (by kernel_rfl)
theorem sz130 : ∀ W, (sizeOf 130).run Try.prog W = .ok 7 W := size_of (by kernel_rfl)
theorem sz132 : ∀ W, (sizeOf 132).run Try.prog W = .ok 1 W := size_of (by kernel_rfl)
theorem sz134 : ∀ W, (sizeOf 134).run Try.prog W = .ok 2 W := size_of (by kernel_rfl)
theorem sz3 : ∀ W, (sizeOf 3).run Try.prog W = .ok 1 W := size_of (by kernel_rfl)
theorem sz39 : ∀ W, (sizeOf 39).run Try.prog W = .ok 1 W := size_of (by kernel_rfl)
theorem zv134 : ∀ W, (zeroValue 134).run Try.prog W = .ok (.agg #[.int .i64 0, .int .i64 0]) W := zero_of (by kernel_rfl)

noncomputable abbrev KJ : KeyK Try.prog 3 Int := keyInt (k := .i64) Try.underlying3

set_option maxHeartbeats 6400000 in
set_option maxRecDepth 100000 in
theorem ends_calls {g : Pl} {a : PlA} {t : Tb} {A B Ai : Option Addr} {ca cb ci s pi : Nat} {xss : List (List Mv)} {met : List Bool} {w : World} (hr : g.rd w a) (hx : t.rd w A B) (hf : Fit2 g t) (hE : Edges g t xss met) (hxs : Rd fMv.kn.sl w Ai xss) (hs : s < t.mv.length) (hpi : pi < g.prods.length) (hP : PrOk g (g.prods.getD pi pr0)) (hgl : g.rules.length ≤ 1099511627776) (hgp : g.prods.length ≤ 1099511627776) :
    Calls Try.prog 64 #[.agg #[.slice a.k g.kinds.length a.ck, .slice a.p g.precs.length a.cp, .slice a.r g.rules.length a.cr, .slice a.q g.prods.length a.cq, .int .i64 g.start], .agg #[.slice A t.mv.length ca, .slice B t.go.length cb], .slice Ai xss.length ci, .int .i64 s, .int .i64 pi] w fun e w' => ∃ v, e = .returned v ∧ v = .bool (dec (EndsOk g t s (g.prods.getD pi pr0))) ∧ Holds w [] w' := by
  have hn1 := hf.1
  have hn2 := hf.2.1
  have hng := hf.2.2.1
  have hrow := hf.2.2.2
  have hlx := hE.lx
  obtain ⟨⟨hP1, hP2, hP3⟩, hP4, hP5⟩ := hP
  refine calls_of Try.func64 rfl Try.ntmps64 rfl ?_
  have H := Holds.start w
  refine wc_seq ?_
  refine wc_region ?_
  refine wl_box (cs := [_, _, _, _, _]) H rfl rfl rfl ?_
  intro b5 w1 hb5 H2
  refine wl_box (cs := [_, _]) H2 rfl rfl rfl ?_
  intro b6 w3 hb6 H4
  refine wl_v rfl rfl rfl (v_assign rfl) ?_
  refine wl_nil ?_
  refine wc_seq ?_
  refine wc_region ?_
  refine wl_mkmap KJ Value.bool H4 rfl ?_
  intro b19 w5 hb19 H5
  refine wl_v rfl rfl rfl (v_move rfl) ?_
  refine wl_insert (kx := (s : Int)) (vx := true) H5 (by repeat constructor) Try.underlying136 (wf64 (x := (s : Int)) (by unfold I64; omega)) (by unfold maxLen; omega) rfl rfl rfl ?_
  intro w6 H6
  rw [bki_one (g := g) (t := t) (s := s)] at H6
  replace H6 := H6.head_imp fun S_ h_ => Mp.mono (N' := t.mv.length) (by omega) S_ h_
  refine wl_v rfl rfl rfl (v_move rfl) ?_
  refine wl_v rfl rfl rfl (v_assign rfl) ?_
  refine wl_nil ?_
  refine wc_seq ?_
  refine wc_region ?_
  refine wl_v rfl rfl rfl (v_fb (o2 := 3) fa53_3 rfl rfl) ?_
  refine wl_v rfl rfl rfl (v_load one51 rfl (H6.at (by repeat constructor) rfl)) ?_
  refine wl_v rfl rfl rfl (v_move rfl) ?_
  refine wl_v rfl rfl rfl (v_idx Try.underlying51 sz130 hr.q.ad rfl rfl (by omega) (by omega)) ?_
  refine wl_v rfl rfl rfl (v_fp fa130_1 rfl) ?_
  obtain ⟨R27_, c27_, B27_, k27_, hc_27, hl27_, hR27_, hB27_⟩ := hr.q.atPr (i := pi) (by omega)
  have hc27_ := hc_27
  refine wl_v rfl rfl rfl (v_load one39 rfl (H6.cell (hc27_ 1 _ rfl))) ?_
  refine wl_v rfl rfl rfl (v_assign rfl) ?_
  refine wl_nil ?_
  refine wc_seq ?_
  refine wc_seq ?_
  refine wc_region ?_
  refine wl_v rfl rfl rfl (v_move rfl) ?_
  refine wl_v rfl rfl rfl (v_len Try.underlying39 rfl) ?_
  refine wl_v rfl rfl rfl (v_subi rfl rfl (by omega)) ?_
  refine wl_v rfl rfl rfl (v_assign rfl) ?_
  refine wl_nil ?_
  refine wc_block ?_
  refine wc_loop (σ := Nat × Nat) (fun s' => [(2, .slice Ai xss.length ci), (4, .int .i64 pi), (5, .pointer (some ⟨b5, 0, none⟩)), (6, .pointer (some ⟨b6, 0, none⟩)), (12, .slice R27_ (g.prods.getD pi pr0).right.length c27_), (13, .int .i64 (((g.prods.getD pi pr0).right.length : Int) - 1 - s'.1)), (11, .map (some s'.2))]) (fun s' W => (s'.1 ≤ (g.prods.getD pi pr0).right.length ∧ ∀ j, j < s'.1 → BkOk g t s (g.prods.getD pi pr0).right j) ∧ Holds w [Mp KJ Value.bool s'.2 t.mv.length (setF (BkI g t s s'.1)), Blk b6 25 [.slice A t.mv.length ca, .slice B t.go.length cb], Blk b5 53 [.slice a.k g.kinds.length a.ck, .slice a.p g.precs.length a.cp, .slice a.r g.rules.length a.cr, .slice a.q g.prods.length a.cq, .int .i64 g.start]] W) (fun s' => (g.prods.getD pi pr0).right.length - s'.1) (0, b19) (by rw [show ((0 : Nat) : Int) = 0 from rfl, Int.sub_zero]; exact (sc rfl (sc rfl (sc rfl (sc rfl (sc rfl (sc rfl (sc rfl (sn _))))))))) ⟨⟨Nat.zero_le _, upto_zero⟩, H6.pm (by repeat constructor)⟩ ?_
  rintro ⟨j, bm⟩ W0 ⟨⟨hj, hok⟩, H⟩
  dsimp only at hj hok H ⊢
  refine wc_seq ?_
  refine wc_seq ?_
  refine wc_region ?_
  refine wl_v rfl rfl rfl (v_move rfl) ?_
  refine wl_v rfl rfl rfl (v_geq rfl rfl) ?_
  refine wl_nil ?_
  refine wc_cond rfl (fun c0 => ?_) (fun c0 => ?_)
  ·have c0p := of_decide_eq_true c0
   have hix : (((g.prods.getD pi pr0).right.length : Int) - 1 - (j : Int)).toNat = (g.prods.getD pi pr0).right.length - 1 - j := by omega
   refine wc_skip ?_
   refine wc_seq ?_
   refine wc_block ?_
   refine wc_seq ?_
   refine wc_region ?_
   refine wl_mkmap KJ Value.bool H rfl ?_
   intro b35 w7 hb35 H7
   rw [setF_nil] at H7
   replace H7 := H7.head_imp fun S_ h_ => Mp.mono (N' := t.mv.length) (by omega) S_ h_
   refine wl_v rfl rfl rfl (v_assign rfl) ?_
   refine wl_nil ?_
   refine wc_seq ?_
   refine wc_seq ?_
   refine wc_region ?_
   refine wl_v rfl rfl rfl (v_move rfl) ?_
   refine wl_range H7 (fun r cnt => (by repeat constructor)) Try.underlying136 rfl rfl ?_
   intro r cn w8 hr8 H8
   refine wl_nil ?_
   refine wc_block ?_
   refine wc_loop (σ := (Int → Bool) × Nat × Option (Int × Bool)) (fun s' => [(2, .slice Ai xss.length ci), (4, .int .i64 pi), (5, .pointer (some ⟨b5, 0, none⟩)), (6, .pointer (some ⟨b6, 0, none⟩)), (12, .slice R27_ (g.prods.getD pi pr0).right.length c27_), (13, .int .i64 (((g.prods.getD pi pr0).right.length : Int) - 1 - j)), (14, .map (some b35)), (37, .pointer (some ⟨r, 0, none⟩))]) (fun s' W => Seen g t s j (g.prods.getD pi pr0).right s'.1 ∧ Holds w [Mp KJ Value.bool b35 t.mv.length (setF (AhI g t s j s'.1)), It KJ Value.bool bm r t.mv.length (setF (BkI g t s j)) s'.1 s'.2.1 s'.2.2, Blk b6 25 [.slice A t.mv.length ca, .slice B t.go.length cb], Blk b5 53 [.slice a.k g.kinds.length a.ck, .slice a.p g.precs.length a.cp, .slice a.r g.rules.length a.cr, .slice a.q g.prods.length a.cq, .int .i64 g.start]] W) (fun s' => s'.2.1) (fun x => (setF (BkI g t s j) x).isSome, cn, none) (sc rfl (sc rfl (sc rfl (sc rfl (sc rfl (sc rfl (sc rfl (sc rfl (sn _))))))))) ⟨fun q hq h_ => absurd ((setF_is.2 ⟨q, rfl, hq⟩).symm.trans h_) (by simp), by (have e_ : setF (fun _ => False) = setF (AhI g t s j fun x => (setF (BkI g t s j) x).isSome) := setF_cong fun y => ⟨fun h => h.elim, fun ⟨sf, q, x, _, h2, h3, _⟩ => absurd ((setF_is.2 ⟨q, rfl, h2⟩).symm.trans h3) (by simp)⟩); rw [e_] at H8; exact H8.pm (by repeat constructor)⟩ ?_
   rintro ⟨left, cn, cur⟩ W1 ⟨hseen, H⟩
   dsimp only at hseen H ⊢
   refine wc_seq ?_
   refine wc_region ?_
   refine wl_next H (fun _ _ _ => (by repeat constructor)) rfl rfl (fun hdone => ?_) (fun kx vx left2 cn2 wn hk1 hk2 hk3 hk4 hk5 Hn => ?_)
   ·refine wl_v rfl rfl rfl (v_extract rfl rfl) ?_
    refine wl_nil ?_
    refine wc_seq ?_
    refine wc_cond_f rfl ?_
    refine wc_exit ?_
    refine wc_region ?_
    refine wl_v rfl rfl rfl (v_move rfl) ?_
    refine wl_v rfl rfl rfl (v_assign rfl) ?_
    refine wl_nil ?_
    refine wc_region ?_
    refine wl_v rfl rfl rfl (v_move rfl) ?_
    refine wl_v rfl rfl rfl (v_subi rfl rfl (by omega)) ?_
    refine wl_v rfl rfl rfl (v_assign rfl) ?_
    refine wl_nil ?_
    have hdn : ∀ q : Nat, q < t.mv.length → left q = false := fun q hq => hdone q (wf64 (by unfold I64; omega))
    exact ⟨(j + 1, b35), by rw [show (((g.prods.getD pi pr0).right.length : Int) - 1 - ((j + 1 : Nat) : Int)) = ((g.prods.getD pi pr0).right.length : Int) - 1 - j - 1 by omega]; exact (sc rfl (sc rfl (sc rfl (sc rfl (sc rfl (sc rfl (sc rfl (sn _)))))))), ⟨⟨by dsimp only; omega, upto_succ hok (seen_all hseen hdn hf hs)⟩, by rw [ah_all hdn hf hs] at H; exact H.pm (by repeat constructor)⟩, by dsimp only; omega⟩
   ·refine wl_v rfl rfl rfl (v_extract rfl rfl) ?_
    refine wl_nil ?_
    refine wc_seq ?_
    refine wc_cond_t rfl ?_
    refine wc_skip ?_
    refine wc_block ?_
    refine wc_seq ?_
    refine wc_region ?_
    obtain ⟨q, rfl, hqb⟩ := setF_some hk3
    have hqn := bk_lt hf hs hqb
    have hql := hE.hc q
    obtain ⟨hrw1, hrw2, _, _⟩ := hrow q hqn
    refine wl_v rfl rfl rfl (v_entry Hn (by repeat constructor) rfl) ?_
    refine wl_v rfl rfl rfl (v_extract rfl rfl) ?_
    refine wl_v rfl rfl rfl (v_assign rfl) ?_
    refine wl_nil ?_
    refine wc_seq ?_
    refine wc_seq ?_
    refine wc_region ?_
    refine wl_v rfl rfl rfl (v_move rfl) ?_
    refine wl_v rfl rfl rfl (v_eql rfl rfl) ?_
    refine wl_nil ?_
    refine wc_cond rfl (fun c2 => ?_) (fun c2 => ?_)
    ·have c2p := of_decide_eq_true c2
     refine wc_seq ?_
     refine wc_region ?_
     refine wl_v rfl rfl rfl (v_assign rfl) ?_
     refine wl_nil ?_
     refine wc_ret ?_
     first
       | exact ⟨_, res1 rfl rfl, congrArg Value.bool (dec_f fun hh => by (have h_ := (hh.1 j (by omega)).1; have h2_ := c2p; have e_ : q = 0 := (by omega); subst e_; exact h_ hqb)).symm, Hn.pm (Pm.nil _)⟩
       | exact ⟨_, res1 rfl rfl, congrArg Value.bool (dec_f fun hh => by (have h3_ := c4p; rw [hix] at h3_; obtain ⟨sf_, hsf1, hsf2⟩ := edge_at hE hqn (i := mj) (by omega); exact h3_ ((hh.1 j (by omega)).2 _ _ _ hsf2 hqb))).symm, Hn.pm (Pm.nil _)⟩
       | exact ⟨_, res1 rfl rfl, congrArg Value.bool (dec_f fun hh => by (have h3_ := c6p; have h4_ := hh.2 q hqn hqb; omega)).symm, Hn.pm (Pm.nil _)⟩
       | exact ⟨_, res1 rfl rfl, congrArg Value.bool (dec_t ⟨hok, fun q hq hb => hgo q hb (hdone q (wf64 (by unfold I64; omega)))⟩).symm, Hn.pm (Pm.nil _)⟩
    ·have c2p := of_decide_eq_false c2
     refine wc_skip ?_
     refine wc_seq ?_
     refine wc_region ?_
     refine wl_v rfl rfl rfl (v_move rfl) ?_
     refine wl_v rfl rfl rfl (v_move rfl) ?_
     refine wl_v rfl rfl rfl (v_idx Try.underlying96 sz132 hxs.ad rfl rfl (by omega) (by omega)) ?_
     obtain ⟨B47, cp47, hc47, hl47, hr47⟩ := hxs.atSlN (i := q) (by omega)
     refine wl_v rfl rfl rfl (v_load one132 rfl (Hn.cell (hc47))) ?_
     refine wl_v rfl rfl rfl (v_len Try.underlying132 rfl) ?_
     refine wl_v rfl rfl rfl (v_move rfl) ?_
     refine wl_nil ?_
     refine wc_block ?_
     refine wc_loop (σ := Nat) (fun s' => [(2, .slice Ai xss.length ci), (4, .int .i64 pi), (5, .pointer (some ⟨b5, 0, none⟩)), (6, .pointer (some ⟨b6, 0, none⟩)), (12, .slice R27_ (g.prods.getD pi pr0).right.length c27_), (13, .int .i64 (((g.prods.getD pi pr0).right.length : Int) - 1 - j)), (14, .map (some b35)), (37, .pointer (some ⟨r, 0, none⟩)), (15, .int .i64 (q : Int)), (47, .slice B47 (xss.getD q []).length cp47), (48, .int .i64 (xss.getD q []).length), (49, .int .i64 s')]) (fun s' W => (s' ≤ (xss.getD q []).length ∧ ∀ i, i < s' → ((xss.getD q []).getD i mv0).n = (g.prods.getD pi pr0).right.getD ((g.prods.getD pi pr0).right.length - 1 - j) 0) ∧ Holds w [Mp KJ Value.bool b35 t.mv.length (setF (AhJ g t s j left (xss.getD q []) s')), It KJ Value.bool bm r t.mv.length (setF (BkI g t s j)) left2 cn2 (some ((q : Int), vx)), Blk b6 25 [.slice A t.mv.length ca, .slice B t.go.length cb], Blk b5 53 [.slice a.k g.kinds.length a.ck, .slice a.p g.precs.length a.cp, .slice a.r g.rules.length a.cr, .slice a.q g.prods.length a.cq, .int .i64 g.start]] W) (fun s' => (xss.getD q []).length - s') 0 (sc rfl (sc rfl (sc rfl (sc rfl (sc rfl (sc rfl (sc rfl (sc rfl (sc rfl (sc rfl (sc rfl (sc rfl (sn _))))))))))))) ⟨⟨Nat.zero_le _, upto_zero⟩, by rw [ahj_zero (row := xss.getD q [])] at Hn; exact Hn.pm (by repeat constructor)⟩ ?_
     rintro mj W2 ⟨⟨hmj, hsy⟩, H⟩
     refine wc_seq ?_
     refine wc_region ?_
     refine wl_v rfl rfl rfl (v_lss rfl rfl) ?_
     refine wl_nil ?_
     refine wc_seq ?_
     refine wc_cond rfl (fun c3 => ?_) (fun c3 => ?_)
     ·have c3p := of_decide_eq_true c3
      obtain ⟨sf_, hsf1, hsf2⟩ := edge_at hE hqn (i := mj) (by omega)
      have hsf3 := hf.rch hsf2.1
      refine wc_skip ?_
      refine wc_seq ?_
      refine wc_block ?_
      refine wc_seq ?_
      refine wc_region ?_
      refine wl_v rfl rfl rfl (v_idx Try.underlying132 sz134 hr47.ad rfl rfl (by omega) (by omega)) ?_
      refine wl_v rfl rfl rfl (v_loadN (cs := fMv.enc _) agg134 rfl rfl (fun k u hu => H.cell (hr47.atN (i := mj) (k := k) mv0 (by omega) hu))) ?_
      refine wl_alloc (cs := [.int .i64 0, .int .i64 0]) H rfl zv134 rfl ?_
      intro b17 w10 hb17 H11
      refine wl_store (vs := [_, _]) H11 (by repeat constructor) sz134 rfl rfl rfl rfl rfl (by (repeat constructor)) ?_
      intro w12 H13 hw12
      refine wl_nil ?_
      refine wc_seq ?_
      refine wc_seq ?_
      refine wc_still mixed (by kernel_rfl) ?_
      have Hd := H13.drew
      refine ws_v rfl rfl rfl (v_fb (o2 := 1) fa134_1 rfl rfl) ?_
      refine ws_v rfl rfl rfl (v_load one3 rfl (Hd.at (by repeat constructor) rfl)) ?_
      refine ws_v rfl rfl rfl (v_move rfl) ?_
      refine ws_v rfl rfl rfl (v_move rfl) ?_
      refine ws_v rfl rfl rfl (v_idx Try.underlying39 sz3 hR27_.ad rfl rfl (by omega) (by omega)) ?_
      refine ws_v rfl rfl rfl (v_load one3 rfl (Hd.cell (hR27_.at1 (by omega) (by omega)))) ?_
      refine ws_v rfl rfl rfl (v_neq rfl rfl) ?_
      refine ws_nil ?_
      refine wc_cond rfl (fun c4 => ?_) (fun c4 => ?_)
      ·have c4p := of_nd_t c4
       refine wc_seq ?_
       refine wc_region ?_
       refine wl_v rfl rfl rfl (v_assign rfl) ?_
       refine wl_nil ?_
       refine wc_ret ?_
       first
         | exact ⟨_, res1 rfl rfl, congrArg Value.bool (dec_f fun hh => by (have h_ := (hh.1 j (by omega)).1; have h2_ := c2p; have e_ : q = 0 := (by omega); subst e_; exact h_ hqb)).symm, Hd.pm (Pm.nil _)⟩
         | exact ⟨_, res1 rfl rfl, congrArg Value.bool (dec_f fun hh => by (have h3_ := c4p; rw [hix] at h3_; obtain ⟨sf_, hsf1, hsf2⟩ := edge_at hE hqn (i := mj) (by omega); exact h3_ ((hh.1 j (by omega)).2 _ _ _ hsf2 hqb))).symm, Hd.pm (Pm.nil _)⟩
         | exact ⟨_, res1 rfl rfl, congrArg Value.bool (dec_f fun hh => by (have h3_ := c6p; have h4_ := hh.2 q hqn hqb; omega)).symm, Hd.pm (Pm.nil _)⟩
         | exact ⟨_, res1 rfl rfl, congrArg Value.bool (dec_t ⟨hok, fun q hq hb => hgo q hb (hdone q (wf64 (by unfold I64; omega)))⟩).symm, Hd.pm (Pm.nil _)⟩
      ·have c4p := of_nd_f c4
       refine wc_skip ?_
       refine wc_region ?_
       refine wl_v rfl rfl rfl (v_move rfl) ?_
       refine wl_v rfl rfl rfl (v_fb (o2 := 0) fa134_0 rfl rfl) ?_
       refine wl_v rfl rfl rfl (v_load one3 rfl (Hd.at (by repeat constructor) rfl)) ?_
       refine wl_mapset (kx := ((xss.getD q []).getD mj mv0).d) (vx := true) Hd (by repeat constructor) Try.underlying136 (wf64 (x := ((xss.getD q []).getD mj mv0).d) (by unfold I64; omega)) (by unfold maxLen; omega) rfl rfl rfl ?_
       intro w14 H14
       rw [ahj_succ] at H14
       replace H14 := H14.imp (A := Mp KJ Value.bool b35 (t.mv.length + 1) (setF (AhJ g t s j left (xss.getD q []) (mj + 1)))) (B := Mp KJ Value.bool b35 t.mv.length (setF (AhJ g t s j left (xss.getD q []) (mj + 1)))) (by repeat constructor) fun S_ h_ => Mp.tight (ahj_rng hf hE hqn (by omega)) h_
       refine wl_nil ?_
       refine wc_region ?_
       refine wl_v rfl rfl rfl (v_addi rfl rfl (by omega)) ?_
       refine wl_v rfl rfl rfl (v_move rfl) ?_
       refine wl_nil ?_
       exact ⟨mj + 1, (sc rfl (sc rfl (sc rfl (sc rfl (sc rfl (sc rfl (sc rfl (sc rfl (sc rfl (sc rfl (sc rfl (sc rfl (sn _))))))))))))), ⟨⟨by omega, upto_succ hsy (by rw [hix] at c4p; exact c4p)⟩, H14.pm (by repeat constructor)⟩, by omega⟩
     ·have c3p := of_decide_eq_false c3
      refine wc_exit ?_
      exact ⟨(left2, cn2, _), (sc rfl (sc rfl (sc rfl (sc rfl (sc rfl (sc rfl (sc rfl (sc rfl (sn _))))))))), ⟨seen_next hseen hE hqn hk4 hf hs (by omega) (fun i hi => hsy i (by omega)), by (have hml_ : mj = (xss.getD q []).length := (by omega)); rw [hml_, ah_next hE hqn hqb hk4 hf hs] at H; exact H.pm (by repeat constructor)⟩, hk5⟩
  ·have c0p := of_decide_eq_false c0
   have hjl : j = (g.prods.getD pi pr0).right.length := by omega
   subst hjl
   refine wc_exit ?_
   refine wc_seq ?_
   refine wc_seq ?_
   refine wc_region ?_
   refine wl_v rfl rfl rfl (v_move rfl) ?_
   refine wl_range H (fun r cnt => (by repeat constructor)) Try.underlying136 rfl rfl ?_
   intro r cn w15 hr15 H15
   refine wl_nil ?_
   refine wc_block ?_
   refine wc_loop (σ := (Int → Bool) × Nat × Option (Int × Bool)) (fun s' => [(2, .slice Ai xss.length ci), (4, .int .i64 pi), (5, .pointer (some ⟨b5, 0, none⟩)), (6, .pointer (some ⟨b6, 0, none⟩)), (66, .pointer (some ⟨r, 0, none⟩))]) (fun s' W => (∀ q : Nat, Bk g t s (g.prods.getD pi pr0).right.length q → s'.1 q = false → 0 ≤ (t.go.getD q []).getD (g.prods.getD pi pr0).left.toNat 0) ∧ Holds w [It KJ Value.bool bm r t.mv.length (setF (BkI g t s (g.prods.getD pi pr0).right.length)) s'.1 s'.2.1 s'.2.2, Blk b6 25 [.slice A t.mv.length ca, .slice B t.go.length cb], Blk b5 53 [.slice a.k g.kinds.length a.ck, .slice a.p g.precs.length a.cp, .slice a.r g.rules.length a.cr, .slice a.q g.prods.length a.cq, .int .i64 g.start]] W) (fun s' => s'.2.1) (fun x => (setF (BkI g t s (g.prods.getD pi pr0).right.length) x).isSome, cn, none) (sc rfl (sc rfl (sc rfl (sc rfl (sc rfl (sn _)))))) ⟨fun q hq h_ => absurd ((setF_is.2 ⟨q, rfl, hq⟩).symm.trans h_) (by simp), H15.pm (by repeat constructor)⟩ ?_
   rintro ⟨left, cn, cur⟩ W3 ⟨hgo, H⟩
   dsimp only at hgo H ⊢
   refine wc_seq ?_
   refine wc_region ?_
   refine wl_next H (fun _ _ _ => (by repeat constructor)) rfl rfl (fun hdone => ?_) (fun kx vx left2 cn2 wn hk1 hk2 hk3 hk4 hk5 Hn => ?_)
   ·refine wl_v rfl rfl rfl (v_extract rfl rfl) ?_
    refine wl_nil ?_
    refine wc_seq ?_
    refine wc_cond_f rfl ?_
    refine wc_exit ?_
    refine wc_seq ?_
    refine wc_region ?_
    refine wl_v rfl rfl rfl (v_assign rfl) ?_
    refine wl_nil ?_
    refine wc_ret ?_
    first
      | exact ⟨_, res1 rfl rfl, congrArg Value.bool (dec_f fun hh => by (have h_ := (hh.1 j (by omega)).1; have h2_ := c2p; have e_ : q = 0 := (by omega); subst e_; exact h_ hqb)).symm, H.pm (Pm.nil _)⟩
      | exact ⟨_, res1 rfl rfl, congrArg Value.bool (dec_f fun hh => by (have h3_ := c4p; rw [hix] at h3_; obtain ⟨sf_, hsf1, hsf2⟩ := edge_at hE hqn (i := mj) (by omega); exact h3_ ((hh.1 j (by omega)).2 _ _ _ hsf2 hqb))).symm, H.pm (Pm.nil _)⟩
      | exact ⟨_, res1 rfl rfl, congrArg Value.bool (dec_f fun hh => by (have h3_ := c6p; have h4_ := hh.2 q hqn hqb; omega)).symm, H.pm (Pm.nil _)⟩
      | exact ⟨_, res1 rfl rfl, congrArg Value.bool (dec_t ⟨hok, fun q hq hb => hgo q hb (hdone q (wf64 (by unfold I64; omega)))⟩).symm, H.pm (Pm.nil _)⟩
   ·refine wl_v rfl rfl rfl (v_extract rfl rfl) ?_
    refine wl_nil ?_
    refine wc_seq ?_
    refine wc_cond_t rfl ?_
    refine wc_skip ?_
    refine wc_block ?_
    refine wc_seq ?_
    refine wc_region ?_
    obtain ⟨q, rfl, hqb⟩ := setF_some hk3
    have hqn := bk_lt hf hs hqb
    have hql := hE.hc q
    obtain ⟨hrw1, hrw2, _, _⟩ := hrow q hqn
    refine wl_v rfl rfl rfl (v_entry Hn (by repeat constructor) rfl) ?_
    refine wl_v rfl rfl rfl (v_extract rfl rfl) ?_
    refine wl_v rfl rfl rfl (v_assign rfl) ?_
    refine wl_nil ?_
    refine wc_seq ?_
    refine wc_still mixed (by kernel_rfl) ?_
    have Hd := Hn.drew
    refine ws_v rfl rfl rfl (v_fb (o2 := 1) fa25_1 rfl rfl) ?_
    refine ws_v rfl rfl rfl (v_load one23 rfl (Hd.at (by repeat constructor) rfl)) ?_
    refine ws_v rfl rfl rfl (v_move rfl) ?_
    refine ws_v rfl rfl rfl (v_idx Try.underlying23 sz39 hx.g.ad rfl rfl (by omega) (by omega)) ?_
    obtain ⟨B75, cp75, hc75, hl75, hr75⟩ := hx.g.atSlN (i := q) (by omega)
    refine ws_v rfl rfl rfl (v_load one39 rfl (Hd.cell (hc75))) ?_
    refine ws_v rfl rfl rfl (v_fb (o2 := 3) fa53_3 rfl rfl) ?_
    refine ws_v rfl rfl rfl (v_load one51 rfl (Hd.at (by repeat constructor) rfl)) ?_
    refine ws_v rfl rfl rfl (v_move rfl) ?_
    refine ws_v rfl rfl rfl (v_idx Try.underlying51 sz130 hr.q.ad rfl rfl (by omega) (by omega)) ?_
    refine ws_v rfl rfl rfl (v_fp fa130_0 rfl) ?_
    obtain ⟨R81_, c81_, B81_, k81_, hc_81, hl81_, hR81_, hB81_⟩ := hr.q.atPr (i := pi) (by omega)
    have hc81_ := hc_81
    refine ws_v rfl rfl rfl (v_load one3 rfl (Hd.cell (hc81_ 0 _ rfl))) ?_
    refine ws_v rfl rfl rfl (v_idx Try.underlying39 sz3 hr75.ad rfl rfl (by omega) (by omega)) ?_
    refine ws_v rfl rfl rfl (v_load one3 rfl (Hd.cell (hr75.at1 (by omega) (by omega)))) ?_
    refine ws_v rfl rfl rfl (v_lss rfl rfl) ?_
    refine ws_nil ?_
    refine wc_cond rfl (fun c6 => ?_) (fun c6 => ?_)
    ·have c6p := of_decide_eq_true c6
     refine wc_seq ?_
     refine wc_region ?_
     refine wl_v rfl rfl rfl (v_assign rfl) ?_
     refine wl_nil ?_
     refine wc_ret ?_
     first
       | exact ⟨_, res1 rfl rfl, congrArg Value.bool (dec_f fun hh => by (have h_ := (hh.1 j (by omega)).1; have h2_ := c2p; have e_ : q = 0 := (by omega); subst e_; exact h_ hqb)).symm, Hd.pm (Pm.nil _)⟩
       | exact ⟨_, res1 rfl rfl, congrArg Value.bool (dec_f fun hh => by (have h3_ := c4p; rw [hix] at h3_; obtain ⟨sf_, hsf1, hsf2⟩ := edge_at hE hqn (i := mj) (by omega); exact h3_ ((hh.1 j (by omega)).2 _ _ _ hsf2 hqb))).symm, Hd.pm (Pm.nil _)⟩
       | exact ⟨_, res1 rfl rfl, congrArg Value.bool (dec_f fun hh => by (have h3_ := c6p; have h4_ := hh.2 q hqn hqb; omega)).symm, Hd.pm (Pm.nil _)⟩
       | exact ⟨_, res1 rfl rfl, congrArg Value.bool (dec_t ⟨hok, fun q hq hb => hgo q hb (hdone q (wf64 (by unfold I64; omega)))⟩).symm, Hd.pm (Pm.nil _)⟩
    ·have c6p := of_decide_eq_false c6
     refine wc_skip ?_
     refine ⟨(left2, cn2, _), (sc rfl (sc rfl (sc rfl (sc rfl (sc rfl (sn _)))))), ⟨fun q' hb' hl' => ?_, Hd.pm (by repeat constructor)⟩, hk5⟩
     have hl2 : left2 q' = false := hl'
     by_cases e : q' = q
     · subst e; omega
     · refine hgo q' hb' ?_
       have := bk_lt hf hs hb'
       cases h5 : left q'
       · rfl
       · rw [(hk4 q' (wf64 (by unfold I64; omega))).2 ⟨h5, by omega⟩] at hl2; cases hl2
end Go.Proofs.Ytkpehkadammppaa.EndsW

/-! Is a state as it should be? -/
namespace Go.Proofs.Ytkpehkadammppaa.SoundW
open Go Go.RowKit Go.Proofs.YtkpehkadammppaaFx Go.Proofs.Ytkpehkadammppaa.EndsW
theorem agg134 : Agg Try.prog 134 2 := agg_of Try.underlying134 (by kernel_rfl)
theorem agg25 : Agg Try.prog 25 2 := agg_of Try.underlying25 (by kernel_rfl)
theorem agg48 : Agg Try.prog 48 2 := agg_of Try.underlying48 (by kernel_rfl)
theorem agg53 : Agg Try.prog 53 5 := agg_of Try.underlying53 (by kernel_rfl)
theorem en64 : Enters Try.prog 64 := enters Try.func64 (by kernel_rfl) rfl
theorem fa134_0 : FieldAt Try.prog 134 0 0 := field_at (sz := 0) Try.underlying134 rfl (by kernel_rfl) rfl
theorem fa134_1 : FieldAt Try.prog 134 1 1 := field_at (sz := 0) Try.underlying134 rfl (by kernel_rfl) rfl
theorem fa25_0 : FieldAt Try.prog 25 0 0 := field_at (sz := 0) Try.underlying25 rfl (by kernel_rfl) rfl
theorem fa48_0 : FieldAt Try.prog 48 0 0 := field_at (sz := 0) Try.underlying48 rfl (by kernel_rfl) rfl
theorem fa48_1 : FieldAt Try.prog 48 1 1 := field_at (sz := 0) Try.underlying48 rfl (by kernel_rfl) rfl
theorem fa53_0 : FieldAt Try.prog 53 0 0 := field_at (sz := 0) Try.underlying53 rfl (by kernel_rfl) rfl
theorem fa53_4 : FieldAt Try.prog 53 4 4 := field_at (sz := 0) Try.underlying53 rfl (by kernel_rfl) rfl
theorem one132 : One Try.prog 132 := one_of Try.underlying132 rfl (by kernel_rfl)
theorem one22 : One Try.prog 22 := one_of Try.underlying22 rfl (by kernel_rfl)
theorem one3 : One Try.prog 3 := one_of Try.underlying3 rfl (by kernel_rfl)
theorem one38 : One Try.prog 38 := one_of Try.underlying38 rfl (by kernel_rfl)
theorem one49 : One Try.prog 49 := one_of Try.underlying49 rfl (by kernel_rfl)
theorem sz132 : ∀ W, (sizeOf 132).run Try.prog W = .ok 1 W := size_of (by kernel_rfl)
theorem sz134 : ∀ W, (sizeOf 134).run Try.prog W = .ok 2 W := size_of (by kernel_rfl)
theorem sz38 : ∀ W, (sizeOf 38).run Try.prog W = .ok 1 W := size_of (by kernel_rfl)
theorem sz48 : ∀ W, (sizeOf 48).run Try.prog W = .ok 2 W := size_of (by kernel_rfl)
theorem zv134 : ∀ W, (zeroValue 134).run Try.prog W = .ok (.agg #[.int .i64 0, .int .i64 0]) W := zero_of (by kernel_rfl)
theorem zv4 : ∀ W, (zeroValue 4).run Try.prog W = .ok (.bool false) W := zero_of (by kernel_rfl)
theorem zv48 : ∀ W, (zeroValue 48).run Try.prog W = .ok (.agg #[.int .i64 0, .int .i64 0]) W := zero_of (by kernel_rfl)

set_option maxHeartbeats 6400000 in
set_option maxRecDepth 100000 in
theorem sound1_calls {g : Pl} {a : PlA} {t : Tb} {A B Ai : Option Addr} {ca cb ci s : Nat} {xss : List (List Mv)} {met : List Bool} {w : World} (hr : g.rd w a) (hg : g.ok) (hx : t.rd w A B) (hf : Fit2 g t) (hG : GOk g) (hE : Edges g t xss met) (hxs : Rd fMv.kn.sl w Ai xss) (hs : s < t.mv.length) :
    Calls Try.prog 45 #[.agg #[.slice a.k g.kinds.length a.ck, .slice a.p g.precs.length a.cp, .slice a.r g.rules.length a.cr, .slice a.q g.prods.length a.cq, .int .i64 g.start], .agg #[.slice A t.mv.length ca, .slice B t.go.length cb], .slice Ai xss.length ci, .int .i64 s] w fun e w' => ∃ v, e = .returned v ∧ v = .bool (dec (StOk g t s)) ∧ Holds w [] w' := by
  have hn1 := hf.1
  have hn2 := hf.2.1
  have hng := hf.2.2.1
  have hrow := hf.2.2.2
  have hlx := hE.lx
  have hql := hE.hc s
  have hq0l := hE.hc 0
  obtain ⟨hrw1, hrw2, hrw3, hrw4⟩ := hrow s hs
  have hGk := hG.1.1.1.2.1
  have hGr := hG.1.2.2.2.1.2
  have hGs := hG.2.1.1
  have hGp := hG.2.1.2
  have hPr := hG.2.2
  refine calls_of Try.func45 rfl Try.ntmps45 rfl ?_
  have H := Holds.start w
  refine wc_seq ?_
  refine wc_region ?_
  refine wl_box (cs := [_, _, _, _, _]) H rfl rfl rfl ?_
  intro b4 w1 hb4 H2
  refine wl_box (cs := [_, _]) H2 rfl rfl rfl ?_
  intro b5 w3 hb5 H4
  refine wl_v rfl rfl rfl (v_assign rfl) ?_
  refine wl_nil ?_
  refine wc_seq ?_
  refine wc_region ?_
  refine wl_mkmap KJ Value.bool H4 rfl ?_
  intro bm w5 hbm H5
  rw [setF_nil] at H5
  replace H5 := H5.head_imp fun S_ h_ => Mp.mono (N' := g.prods.length) (by omega) S_ h_
  refine wl_v rfl rfl rfl (v_assign rfl) ?_
  refine wl_nil ?_
  refine wc_seq ?_
  refine wc_seq ?_
  refine wc_region ?_
  refine wl_v rfl rfl rfl (v_fb (o2 := 0) fa25_0 rfl rfl) ?_
  refine wl_v rfl rfl rfl (v_load one22 rfl (H5.at (by repeat constructor) rfl)) ?_
  refine wl_v rfl rfl rfl (v_move rfl) ?_
  refine wl_v rfl rfl rfl (v_idx Try.underlying22 sz38 hx.m.ad rfl rfl (by omega) (by omega)) ?_
  obtain ⟨B19, cp19, hc19, hl19, hr19⟩ := hx.m.atSlN (i := s) (by omega)
  refine wl_v rfl rfl rfl (v_load one38 rfl (H5.cell (hc19))) ?_
  refine wl_v rfl rfl rfl (v_len Try.underlying38 rfl) ?_
  refine wl_v rfl rfl rfl (v_move rfl) ?_
  refine wl_nil ?_
  refine wc_block ?_
  refine wc_loop (σ := Nat × (Int → Prop)) (fun s' => [(2, .slice Ai xss.length ci), (3, .int .i64 s), (4, .pointer (some ⟨b4, 0, none⟩)), (5, .pointer (some ⟨b5, 0, none⟩)), (9, .map (some bm)), (19, .slice B19 (t.mv.getD s []).length cp19), (20, .int .i64 (t.mv.getD s []).length), (21, .int .i64 s'.1)]) (fun s' W => (s'.1 ≤ (t.mv.getD s []).length ∧ (∀ x, s'.2 x → ∃ pi : Nat, x = pi ∧ pi < g.prods.length ∧ EndsOk g t s (g.prods.getD pi pr0)) ∧ ∀ j, j < s'.1 → MvS g t s j) ∧ Holds w [Mp KJ Value.bool bm g.prods.length (setF s'.2), Blk b5 25 [.slice A t.mv.length ca, .slice B t.go.length cb], Blk b4 53 [.slice a.k g.kinds.length a.ck, .slice a.p g.precs.length a.cp, .slice a.r g.rules.length a.cr, .slice a.q g.prods.length a.cq, .int .i64 g.start]] W) (fun s' => (t.mv.getD s []).length - s'.1) (0, fun _ => False) (sc rfl (sc rfl (sc rfl (sc rfl (sc rfl (sc rfl (sc rfl (sc rfl (sn _))))))))) ⟨⟨Nat.zero_le _, fun x h => h.elim, upto_zero⟩, H5.pm (by repeat constructor)⟩ ?_
  rintro ⟨kj, S⟩ W0 ⟨⟨hkj, hS, hok⟩, H⟩
  dsimp only at hkj hS hok H ⊢
  refine wc_seq ?_
  refine wc_region ?_
  refine wl_v rfl rfl rfl (v_lss rfl rfl) ?_
  refine wl_nil ?_
  refine wc_seq ?_
  refine wc_cond rfl (fun c0 => ?_) (fun c0 => ?_)
  ·have c0p := of_decide_eq_true c0
   refine wc_skip ?_
   refine wc_seq ?_
   refine wc_block ?_
   refine wc_seq ?_
   refine wc_region ?_
   refine wl_v rfl rfl rfl (v_move rfl) ?_
   refine wl_v rfl rfl rfl (v_idx Try.underlying38 sz48 hr19.ad rfl rfl (by omega) (by omega)) ?_
   refine wl_v rfl rfl rfl (v_loadN (cs := fMv.enc _) agg48 rfl rfl (fun k u hu => H.cell (hr19.atN (i := kj) (k := k) mv0 (by omega) hu))) ?_
   refine wl_alloc (cs := [.int .i64 0, .int .i64 0]) H rfl zv48 rfl ?_
   intro b11 w6 hb11 H7
   refine wl_v rfl rfl rfl (v_assign rfl) ?_
   refine wl_store (vs := [_, _]) H7 (by repeat constructor) sz48 rfl rfl rfl rfl rfl (by (repeat constructor)) ?_
   intro w8 H9 hw8
   refine wl_nil ?_
   refine wc_seq ?_
   refine wc_region ?_
   refine wl_v rfl rfl rfl (v_fb (o2 := 0) fa48_0 rfl rfl) ?_
   refine wl_v rfl rfl rfl (v_load one3 rfl (H9.at (by repeat constructor) rfl)) ?_
   refine wl_nil ?_
   refine wc_block ?_
   refine wc_seq ?_
   refine wc_region ?_
   refine wl_v rfl rfl rfl (v_eql rfl rfl) ?_
   refine wl_v rfl rfl rfl (v_assign rfl) ?_
   refine wl_nil ?_
   refine wc_cond rfl (fun c1 => ?_) (fun c1 => ?_)
   ·have c1p := of_decide_eq_true c1
    obtain ⟨pi, hq0, hpl⟩ : ∃ pi : Nat, ((t.mv.getD s []).getD kj mv0).n = (pi : Int) ∧ pi < g.prods.length := by
      have h_ := hrw3 kj (by omega)
      unfold mvOk at h_
      exact ⟨((t.mv.getD s []).getD kj mv0).n.toNat, by omega, by omega⟩
    refine wc_seq ?_
    refine wc_seq ?_
    refine wc_region ?_
    refine wl_v rfl rfl rfl (v_move rfl) ?_
    refine wl_v rfl rfl rfl (v_fb (o2 := 1) fa48_1 rfl rfl) ?_
    refine wl_v rfl rfl rfl (v_load one3 rfl (H9.at (by repeat constructor) rfl)) ?_
    refine wl_v rfl rfl rfl (v_look' (kx := ((t.mv.getD s []).getD kj mv0).n) H9 (by repeat constructor) Try.underlying136 zv4 (wf64 (x := ((t.mv.getD s []).getD kj mv0).n) (by unfold I64; omega)) rfl rfl (setF_get _ _)) ?_
    refine wl_v rfl rfl rfl (v_not rfl) ?_
    refine wl_v rfl rfl rfl (v_move rfl) ?_
    refine wl_guard rfl rfl rfl (fun g35 => ?_) (fun g35 => ?_)
    ·have g35p := of_n_t g35
     refine wl_v rfl rfl rfl (v_loadN agg53 rfl rfl (H9.ats (by repeat constructor))) ?_
     refine wl_on' rfl rfl g35 ?_
     refine wl_v rfl rfl rfl (v_loadN agg25 rfl rfl (H9.ats (by repeat constructor))) ?_
     refine wl_on' rfl rfl g35 ?_
     refine wl_v rfl rfl rfl (v_move rfl) ?_
     refine wl_on' rfl rfl g35 ?_
     refine wl_v rfl rfl rfl (v_move rfl) ?_
     refine wl_on' rfl rfl g35 ?_
     refine wl_v rfl rfl rfl (v_fb (o2 := 1) fa48_1 rfl rfl) ?_
     refine wl_on' rfl rfl g35 ?_
     refine wl_v rfl rfl rfl (v_load one3 rfl (H9.at (by repeat constructor) rfl)) ?_
     refine wl_on' rfl rfl g35 ?_
     refine wl_call en64 rfl rfl (by rw [hq0]; exact ends_calls (met := met) (hr.below H9.old) (hx.below H9.old) hf hE (hxs.below H9.old) hs hpl (hPr pi hpl) hg.r hg.q) ?_
     rintro _ w11 ⟨rfl, Hc⟩
     have H12 := H9.call0 Hc
     refine wl_on' rfl rfl g35 ?_
     refine wl_v rfl rfl rfl (v_not rfl) ?_
     refine wl_v rfl rfl rfl (v_pick_t rfl g35 rfl) ?_
     refine wl_nil ?_
     refine wc_cond rfl (fun c2 => ?_) (fun c2 => ?_)
     ·have c2p := of_n_t c2
      refine wc_seq ?_
      refine wc_region ?_
      refine wl_v rfl rfl rfl (v_assign rfl) ?_
      refine wl_nil ?_
      refine wc_ret ?_
      first
        | exact ⟨_, res1 rfl rfl, congrArg Value.bool (dec_t fun k hk => hok k (by omega)).symm, H12.pm (Pm.nil _)⟩
        | exact ⟨_, res1 rfl rfl, congrArg Value.bool (dec_f fun hh => by (have h2_ := of_ndec (of_n_t c2); have h_ := (hh kj (by omega)).1 (by omega); rw [hq0, Int.toNat_natCast] at h_; exact h2_ h_)).symm, H12.pm (Pm.nil _)⟩
        | exact ⟨_, res1 rfl rfl, congrArg Value.bool (dec_f fun hh => by (have h2_ := hmj; obtain ⟨_, _, h_⟩ := ((hh kj (by omega)).2 (by omega)).2; obtain ⟨sf_, e1_, e2_⟩ := edge_at hE hs (i := mj) (by omega); have h3_ := h_ _ _ e2_; omega)).symm, H12.pm (Pm.nil _)⟩
        | exact ⟨_, res1 rfl rfl, congrArg Value.bool (dec_f fun hh => by (have h_ := ((hh kj (by omega)).2 (by omega)).2.2.1; have h3_ : 0 < (xss.getD 0 []).length := (by omega); obtain ⟨sf_, e1_, e2_⟩ := edge_at hE (q := 0) (i := 0) (by omega) h3_; exact h_ _ _ e2_)).symm, H12.pm (Pm.nil _)⟩
        | exact ⟨_, res1 rfl rfl, congrArg Value.bool (dec_f fun hh => by (have h_ := (hh kj (by omega)).2 (by omega); have h2_ := h_.2.1; have h3_ := h_.1; omega)).symm, H12.pm (Pm.nil _)⟩
     ·have c2p := of_n_f c2
      refine wc_skip ?_
      refine wc_region ?_
      refine wl_v rfl rfl rfl (v_move rfl) ?_
      refine wl_v rfl rfl rfl (v_fb (o2 := 1) fa48_1 rfl rfl) ?_
      refine wl_v rfl rfl rfl (v_load one3 rfl (H12.at (by repeat constructor) rfl)) ?_
      refine wl_mapset (kx := ((t.mv.getD s []).getD kj mv0).n) (vx := true) H12 (by repeat constructor) Try.underlying136 (wf64 (x := ((t.mv.getD s []).getD kj mv0).n) (by unfold I64; omega)) (by unfold maxLen; omega) rfl rfl rfl ?_
      intro w13 H13
      rw [setF_add] at H13
      replace H13 := H13.imp (A := Mp KJ Value.bool bm (g.prods.length + 1) (setF fun y => S y ∨ y = ((t.mv.getD s []).getD kj mv0).n)) (B := Mp KJ Value.bool bm g.prods.length (setF fun y => S y ∨ y = ((t.mv.getD s []).getD kj mv0).n)) (by repeat constructor) fun S_ h_ => Mp.tight (fun x hx_ => by refine (setF_is.1 hx_).elim (fun h1_ => ?_) (fun h1_ => by omega); obtain ⟨pj, e1_, e2_, _⟩ := hS x h1_; omega) h_
      refine wl_nil ?_
      refine wc_region ?_
      refine wl_v rfl rfl rfl (v_addi rfl rfl (by omega)) ?_
      refine wl_v rfl rfl rfl (v_move rfl) ?_
      refine wl_nil ?_
      first
        | exact ⟨(kj + 1, fun y => S y ∨ y = ((t.mv.getD s []).getD kj mv0).n), (sc rfl (sc rfl (sc rfl (sc rfl (sc rfl (sc rfl (sc rfl (sc rfl (sn _))))))))), ⟨⟨by dsimp only; omega, fun x h_ => h_.elim (hS x) fun e_ => ⟨pi, e_.trans hq0, hpl, of_dec (of_n_f c2)⟩, upto_succ hok ⟨fun _ => by rw [hq0, Int.toNat_natCast]; exact of_dec (of_n_f c2), fun h_ => absurd h_ (by omega)⟩⟩, H13.pm (by repeat constructor)⟩, by dsimp only; omega⟩
        | exact ⟨(kj + 1, fun y => S y ∨ y = ((t.mv.getD s []).getD kj mv0).n), (sc rfl (sc rfl (sc rfl (sc rfl (sc rfl (sc rfl (sc rfl (sc rfl (sn _))))))))), ⟨⟨by dsimp only; omega, fun x h_ => h_.elim (hS x) fun e_ => ⟨pi, e_.trans hq0, hpl, by (obtain ⟨pj, e1_, e2_, e3_⟩ := hS _ (of_dec g35p); have e4_ : pj = pi := (by omega); exact e4_ ▸ e3_)⟩, upto_succ hok ⟨fun _ => by (rw [hq0, Int.toNat_natCast]; obtain ⟨pj, e1_, e2_, e3_⟩ := hS _ (of_dec g35p); have e4_ : pj = pi := (by omega); exact e4_ ▸ e3_), fun h_ => absurd h_ (by omega)⟩⟩, H13.pm (by repeat constructor)⟩, by dsimp only; omega⟩
        | exact ⟨(kj + 1, S), (sc rfl (sc rfl (sc rfl (sc rfl (sc rfl (sc rfl (sc rfl (sc rfl (sn _))))))))), ⟨⟨by dsimp only; omega, hS, upto_succ hok ⟨fun h_ => absurd h_ (by omega), fun _ => ⟨by omega, hacc⟩⟩⟩, H13.pm (by repeat constructor)⟩, by dsimp only; omega⟩
        | exact ⟨(kj + 1, S), (sc rfl (sc rfl (sc rfl (sc rfl (sc rfl (sc rfl (sc rfl (sc rfl (sn _))))))))), ⟨⟨by dsimp only; omega, hS, upto_succ hok ⟨fun h_ => absurd h_ (by omega), fun h_ => absurd h_ (by omega)⟩⟩, H13.pm (by repeat constructor)⟩, by dsimp only; omega⟩
    ·have g35p := of_n_f g35
     refine wl_off rfl rfl g35 rfl ?_
     refine wl_off rfl rfl g35 rfl ?_
     refine wl_off rfl rfl g35 rfl ?_
     refine wl_off rfl rfl g35 rfl ?_
     refine wl_off rfl rfl g35 rfl ?_
     refine wl_off rfl rfl g35 rfl ?_
     refine wl_off rfl rfl g35 rfl ?_
     refine wl_v rfl rfl rfl (v_pick_f rfl g35 rfl) ?_
     refine wl_nil ?_
     refine wc_cond_f rfl ?_
     refine wc_skip ?_
     refine wc_region ?_
     refine wl_v rfl rfl rfl (v_move rfl) ?_
     refine wl_v rfl rfl rfl (v_fb (o2 := 1) fa48_1 rfl rfl) ?_
     refine wl_v rfl rfl rfl (v_load one3 rfl (H9.at (by repeat constructor) rfl)) ?_
     refine wl_mapset (kx := ((t.mv.getD s []).getD kj mv0).n) (vx := true) H9 (by repeat constructor) Try.underlying136 (wf64 (x := ((t.mv.getD s []).getD kj mv0).n) (by unfold I64; omega)) (by unfold maxLen; omega) rfl rfl rfl ?_
     intro w14 H14
     rw [setF_add] at H14
     replace H14 := H14.imp (A := Mp KJ Value.bool bm (g.prods.length + 1) (setF fun y => S y ∨ y = ((t.mv.getD s []).getD kj mv0).n)) (B := Mp KJ Value.bool bm g.prods.length (setF fun y => S y ∨ y = ((t.mv.getD s []).getD kj mv0).n)) (by repeat constructor) fun S_ h_ => Mp.tight (fun x hx_ => by refine (setF_is.1 hx_).elim (fun h1_ => ?_) (fun h1_ => by omega); obtain ⟨pj, e1_, e2_, _⟩ := hS x h1_; omega) h_
     refine wl_nil ?_
     refine wc_region ?_
     refine wl_v rfl rfl rfl (v_addi rfl rfl (by omega)) ?_
     refine wl_v rfl rfl rfl (v_move rfl) ?_
     refine wl_nil ?_
     first
       | exact ⟨(kj + 1, fun y => S y ∨ y = ((t.mv.getD s []).getD kj mv0).n), (sc rfl (sc rfl (sc rfl (sc rfl (sc rfl (sc rfl (sc rfl (sc rfl (sn _))))))))), ⟨⟨by dsimp only; omega, fun x h_ => h_.elim (hS x) fun e_ => ⟨pi, e_.trans hq0, hpl, of_dec (of_n_f c2)⟩, upto_succ hok ⟨fun _ => by rw [hq0, Int.toNat_natCast]; exact of_dec (of_n_f c2), fun h_ => absurd h_ (by omega)⟩⟩, H14.pm (by repeat constructor)⟩, by dsimp only; omega⟩
       | exact ⟨(kj + 1, fun y => S y ∨ y = ((t.mv.getD s []).getD kj mv0).n), (sc rfl (sc rfl (sc rfl (sc rfl (sc rfl (sc rfl (sc rfl (sc rfl (sn _))))))))), ⟨⟨by dsimp only; omega, fun x h_ => h_.elim (hS x) fun e_ => ⟨pi, e_.trans hq0, hpl, by (obtain ⟨pj, e1_, e2_, e3_⟩ := hS _ (of_dec g35p); have e4_ : pj = pi := (by omega); exact e4_ ▸ e3_)⟩, upto_succ hok ⟨fun _ => by (rw [hq0, Int.toNat_natCast]; obtain ⟨pj, e1_, e2_, e3_⟩ := hS _ (of_dec g35p); have e4_ : pj = pi := (by omega); exact e4_ ▸ e3_), fun h_ => absurd h_ (by omega)⟩⟩, H14.pm (by repeat constructor)⟩, by dsimp only; omega⟩
       | exact ⟨(kj + 1, S), (sc rfl (sc rfl (sc rfl (sc rfl (sc rfl (sc rfl (sc rfl (sc rfl (sn _))))))))), ⟨⟨by dsimp only; omega, hS, upto_succ hok ⟨fun h_ => absurd h_ (by omega), fun _ => ⟨by omega, hacc⟩⟩⟩, H14.pm (by repeat constructor)⟩, by dsimp only; omega⟩
       | exact ⟨(kj + 1, S), (sc rfl (sc rfl (sc rfl (sc rfl (sc rfl (sc rfl (sc rfl (sc rfl (sn _))))))))), ⟨⟨by dsimp only; omega, hS, upto_succ hok ⟨fun h_ => absurd h_ (by omega), fun h_ => absurd h_ (by omega)⟩⟩, H14.pm (by repeat constructor)⟩, by dsimp only; omega⟩
   ·have c1p := of_decide_eq_false c1
    refine wc_seq ?_
    refine wc_region ?_
    refine wl_v rfl rfl rfl (v_eql rfl rfl) ?_
    refine wl_v rfl rfl rfl (v_assign rfl) ?_
    refine wl_nil ?_
    refine wc_cond rfl (fun c3 => ?_) (fun c3 => ?_)
    ·have c3p := of_decide_eq_true c3
     refine wc_seq ?_
     refine wc_seq ?_
     refine wc_region ?_
     refine wl_v rfl rfl rfl (v_move rfl) ?_
     refine wl_v rfl rfl rfl (v_neq rfl rfl) ?_
     refine wl_v rfl rfl rfl (v_move rfl) ?_
     refine wl_guard rfl rfl rfl (fun g52 => ?_) (fun g52 => ?_)
     ·have g52p := of_nd_f g52
      refine wl_v rfl rfl rfl (v_move rfl) ?_
      refine wl_on' rfl rfl g52 ?_
      refine wl_v rfl rfl rfl (v_eql rfl rfl) ?_
      refine wl_v rfl rfl rfl (v_pick_f rfl g52 rfl) ?_
      refine wl_v rfl rfl rfl (v_move rfl) ?_
      refine wl_guard rfl rfl rfl (fun g56 => ?_) (fun g56 => ?_)
      ·have g56p := of_decide_eq_false g56
       refine wl_v rfl rfl rfl (v_move rfl) ?_
       refine wl_on' rfl rfl g56 ?_
       refine wl_v rfl rfl rfl (v_idx Try.underlying96 sz132 hxs.ad rfl rfl (by omega) (by omega)) ?_
       refine wl_on' rfl rfl g56 ?_
       obtain ⟨B59, cp59, hc59, hl59, hr59⟩ := hxs.atSlN (i := 0) (by omega)
       refine wl_v rfl rfl rfl (v_load one132 rfl (H9.cell (hc59))) ?_
       refine wl_on' rfl rfl g56 ?_
       refine wl_v rfl rfl rfl (v_len Try.underlying132 rfl) ?_
       refine wl_on' rfl rfl g56 ?_
       refine wl_v rfl rfl rfl (v_gtr rfl rfl) ?_
       refine wl_v rfl rfl rfl (v_pick_f rfl g56 rfl) ?_
       refine wl_nil ?_
       refine wc_cond rfl (fun c4 => ?_) (fun c4 => ?_)
       ·have c4p := of_decide_eq_true c4
        refine wc_seq ?_
        refine wc_region ?_
        refine wl_v rfl rfl rfl (v_assign rfl) ?_
        refine wl_nil ?_
        refine wc_ret ?_
        first
          | exact ⟨_, res1 rfl rfl, congrArg Value.bool (dec_t fun k hk => hok k (by omega)).symm, H9.pm (Pm.nil _)⟩
          | exact ⟨_, res1 rfl rfl, congrArg Value.bool (dec_f fun hh => by (have h2_ := of_ndec (of_n_t c2); have h_ := (hh kj (by omega)).1 (by omega); rw [hq0, Int.toNat_natCast] at h_; exact h2_ h_)).symm, H9.pm (Pm.nil _)⟩
          | exact ⟨_, res1 rfl rfl, congrArg Value.bool (dec_f fun hh => by (have h2_ := hmj; obtain ⟨_, _, h_⟩ := ((hh kj (by omega)).2 (by omega)).2; obtain ⟨sf_, e1_, e2_⟩ := edge_at hE hs (i := mj) (by omega); have h3_ := h_ _ _ e2_; omega)).symm, H9.pm (Pm.nil _)⟩
          | exact ⟨_, res1 rfl rfl, congrArg Value.bool (dec_f fun hh => by (have h_ := ((hh kj (by omega)).2 (by omega)).2.2.1; have h3_ : 0 < (xss.getD 0 []).length := (by omega); obtain ⟨sf_, e1_, e2_⟩ := edge_at hE (q := 0) (i := 0) (by omega) h3_; exact h_ _ _ e2_)).symm, H9.pm (Pm.nil _)⟩
          | exact ⟨_, res1 rfl rfl, congrArg Value.bool (dec_f fun hh => by (have h_ := (hh kj (by omega)).2 (by omega); have h2_ := h_.2.1; have h3_ := h_.1; omega)).symm, H9.pm (Pm.nil _)⟩
       ·have c4p := of_decide_eq_false c4
        refine wc_skip ?_
        refine wc_seq ?_
        refine wc_region ?_
        refine wl_v rfl rfl rfl (v_move rfl) ?_
        refine wl_v rfl rfl rfl (v_move rfl) ?_
        refine wl_v rfl rfl rfl (v_idx Try.underlying96 sz132 hxs.ad rfl rfl (by omega) (by omega)) ?_
        obtain ⟨B66, cp66, hc66, hl66, hr66⟩ := hxs.atSlN (i := s) (by omega)
        refine wl_v rfl rfl rfl (v_load one132 rfl (H9.cell (hc66))) ?_
        refine wl_v rfl rfl rfl (v_len Try.underlying132 rfl) ?_
        refine wl_v rfl rfl rfl (v_move rfl) ?_
        refine wl_nil ?_
        refine wc_block ?_
        refine wc_loop (σ := Nat) (fun s' => [(2, .slice Ai xss.length ci), (3, .int .i64 s), (4, .pointer (some ⟨b4, 0, none⟩)), (5, .pointer (some ⟨b5, 0, none⟩)), (9, .map (some bm)), (19, .slice B19 (t.mv.getD s []).length cp19), (20, .int .i64 (t.mv.getD s []).length), (21, .int .i64 kj), (66, .slice B66 (xss.getD s []).length cp66), (67, .int .i64 (xss.getD s []).length), (68, .int .i64 s')]) (fun s' W => (s' ≤ (xss.getD s []).length ∧ ∀ i, i < s' → ((xss.getD s []).getD i mv0).d = 0 ∧ ((xss.getD s []).getD i mv0).n = (g.kinds.length : Int) + g.start) ∧ Holds w [Mp KJ Value.bool bm g.prods.length (setF S), Blk b5 25 [.slice A t.mv.length ca, .slice B t.go.length cb], Blk b4 53 [.slice a.k g.kinds.length a.ck, .slice a.p g.precs.length a.cp, .slice a.r g.rules.length a.cr, .slice a.q g.prods.length a.cq, .int .i64 g.start]] W) (fun s' => (xss.getD s []).length - s') 0 (sc rfl (sc rfl (sc rfl (sc rfl (sc rfl (sc rfl (sc rfl (sc rfl (sc rfl (sc rfl (sc rfl (sn _)))))))))))) ⟨⟨Nat.zero_le _, upto_zero⟩, H9.pm (by repeat constructor)⟩ ?_
        rintro mj W1 ⟨⟨hmj, hsy⟩, H⟩
        refine wc_seq ?_
        refine wc_region ?_
        refine wl_v rfl rfl rfl (v_lss rfl rfl) ?_
        refine wl_nil ?_
        refine wc_seq ?_
        refine wc_cond rfl (fun c5 => ?_) (fun c5 => ?_)
        ·have c5p := of_decide_eq_true c5
         refine wc_skip ?_
         refine wc_seq ?_
         refine wc_block ?_
         refine wc_seq ?_
         refine wc_region ?_
         refine wl_v rfl rfl rfl (v_idx Try.underlying132 sz134 hr66.ad rfl rfl (by omega) (by omega)) ?_
         refine wl_v rfl rfl rfl (v_loadN (cs := fMv.enc _) agg134 rfl rfl (fun k u hu => H.cell (hr66.atN (i := mj) (k := k) mv0 (by omega) hu))) ?_
         refine wl_alloc (cs := [.int .i64 0, .int .i64 0]) H rfl zv134 rfl ?_
         intro b13 w15 hb13 H16
         refine wl_store (vs := [_, _]) H16 (by repeat constructor) sz134 rfl rfl rfl rfl rfl (by (repeat constructor)) ?_
         intro w17 H18 hw17
         refine wl_nil ?_
         refine wc_seq ?_
         refine wc_region ?_
         refine wl_v rfl rfl rfl (v_fb (o2 := 0) fa134_0 rfl rfl) ?_
         refine wl_v rfl rfl rfl (v_load one3 rfl (H18.at (by repeat constructor) rfl)) ?_
         refine wl_v rfl rfl rfl (v_neq rfl rfl) ?_
         refine wl_v rfl rfl rfl (v_move rfl) ?_
         refine wl_guard rfl rfl rfl (fun g75 => ?_) (fun g75 => ?_)
         ·have g75p := of_nd_f g75
          refine wl_v rfl rfl rfl (v_fb (o2 := 1) fa134_1 rfl rfl) ?_
          refine wl_on' rfl rfl g75 ?_
          refine wl_v rfl rfl rfl (v_load one3 rfl (H18.at (by repeat constructor) rfl)) ?_
          refine wl_on' rfl rfl g75 ?_
          refine wl_v rfl rfl rfl (v_fb (o2 := 0) fa53_0 rfl rfl) ?_
          refine wl_on' rfl rfl g75 ?_
          refine wl_v rfl rfl rfl (v_load one49 rfl (H18.at (by repeat constructor) rfl)) ?_
          refine wl_on' rfl rfl g75 ?_
          refine wl_v rfl rfl rfl (v_len Try.underlying49 rfl) ?_
          refine wl_on' rfl rfl g75 ?_
          refine wl_v rfl rfl rfl (v_fb (o2 := 4) fa53_4 rfl rfl) ?_
          refine wl_on' rfl rfl g75 ?_
          refine wl_v rfl rfl rfl (v_load one3 rfl (H18.at (by repeat constructor) rfl)) ?_
          refine wl_on' rfl rfl g75 ?_
          refine wl_v rfl rfl rfl (v_addi rfl rfl (by omega)) ?_
          refine wl_on' rfl rfl g75 ?_
          refine wl_v rfl rfl rfl (v_neq rfl rfl) ?_
          refine wl_v rfl rfl rfl (v_pick_f rfl g75 rfl) ?_
          refine wl_nil ?_
          refine wc_cond rfl (fun c6 => ?_) (fun c6 => ?_)
          ·have c6p := of_nd_t c6
           refine wc_seq ?_
           refine wc_region ?_
           refine wl_v rfl rfl rfl (v_assign rfl) ?_
           refine wl_nil ?_
           refine wc_ret ?_
           first
             | exact ⟨_, res1 rfl rfl, congrArg Value.bool (dec_t fun k hk => hok k (by omega)).symm, H18.pm (Pm.nil _)⟩
             | exact ⟨_, res1 rfl rfl, congrArg Value.bool (dec_f fun hh => by (have h2_ := of_ndec (of_n_t c2); have h_ := (hh kj (by omega)).1 (by omega); rw [hq0, Int.toNat_natCast] at h_; exact h2_ h_)).symm, H18.pm (Pm.nil _)⟩
             | exact ⟨_, res1 rfl rfl, congrArg Value.bool (dec_f fun hh => by (have h2_ := hmj; obtain ⟨_, _, h_⟩ := ((hh kj (by omega)).2 (by omega)).2; obtain ⟨sf_, e1_, e2_⟩ := edge_at hE hs (i := mj) (by omega); have h3_ := h_ _ _ e2_; omega)).symm, H18.pm (Pm.nil _)⟩
             | exact ⟨_, res1 rfl rfl, congrArg Value.bool (dec_f fun hh => by (have h_ := ((hh kj (by omega)).2 (by omega)).2.2.1; have h3_ : 0 < (xss.getD 0 []).length := (by omega); obtain ⟨sf_, e1_, e2_⟩ := edge_at hE (q := 0) (i := 0) (by omega) h3_; exact h_ _ _ e2_)).symm, H18.pm (Pm.nil _)⟩
             | exact ⟨_, res1 rfl rfl, congrArg Value.bool (dec_f fun hh => by (have h_ := (hh kj (by omega)).2 (by omega); have h2_ := h_.2.1; have h3_ := h_.1; omega)).symm, H18.pm (Pm.nil _)⟩
          ·have c6p := of_nd_f c6
           refine wc_skip ?_
           refine wc_region ?_
           refine wl_v rfl rfl rfl (v_addi rfl rfl (by omega)) ?_
           refine wl_v rfl rfl rfl (v_move rfl) ?_
           refine wl_nil ?_
           exact ⟨mj + 1, (sc rfl (sc rfl (sc rfl (sc rfl (sc rfl (sc rfl (sc rfl (sc rfl (sc rfl (sc rfl (sc rfl (sn _)))))))))))), ⟨⟨by omega, upto_succ hsy ⟨by omega, by omega⟩⟩, H18.pm (by repeat constructor)⟩, by omega⟩
         ·have g75p := of_nd_t g75
          refine wl_off rfl rfl g75 rfl ?_
          refine wl_off rfl rfl g75 rfl ?_
          refine wl_off rfl rfl g75 rfl ?_
          refine wl_off rfl rfl g75 rfl ?_
          refine wl_off rfl rfl g75 rfl ?_
          refine wl_off rfl rfl g75 rfl ?_
          refine wl_off rfl rfl g75 rfl ?_
          refine wl_off rfl rfl g75 rfl ?_
          refine wl_v rfl rfl rfl (v_pick_t rfl g75 rfl) ?_
          refine wl_nil ?_
          refine wc_cond_t rfl ?_
          refine wc_seq ?_
          refine wc_region ?_
          refine wl_v rfl rfl rfl (v_assign rfl) ?_
          refine wl_nil ?_
          refine wc_ret ?_
          first
            | exact ⟨_, res1 rfl rfl, congrArg Value.bool (dec_t fun k hk => hok k (by omega)).symm, H18.pm (Pm.nil _)⟩
            | exact ⟨_, res1 rfl rfl, congrArg Value.bool (dec_f fun hh => by (have h2_ := of_ndec (of_n_t c2); have h_ := (hh kj (by omega)).1 (by omega); rw [hq0, Int.toNat_natCast] at h_; exact h2_ h_)).symm, H18.pm (Pm.nil _)⟩
            | exact ⟨_, res1 rfl rfl, congrArg Value.bool (dec_f fun hh => by (have h2_ := hmj; obtain ⟨_, _, h_⟩ := ((hh kj (by omega)).2 (by omega)).2; obtain ⟨sf_, e1_, e2_⟩ := edge_at hE hs (i := mj) (by omega); have h3_ := h_ _ _ e2_; omega)).symm, H18.pm (Pm.nil _)⟩
            | exact ⟨_, res1 rfl rfl, congrArg Value.bool (dec_f fun hh => by (have h_ := ((hh kj (by omega)).2 (by omega)).2.2.1; have h3_ : 0 < (xss.getD 0 []).length := (by omega); obtain ⟨sf_, e1_, e2_⟩ := edge_at hE (q := 0) (i := 0) (by omega) h3_; exact h_ _ _ e2_)).symm, H18.pm (Pm.nil _)⟩
            | exact ⟨_, res1 rfl rfl, congrArg Value.bool (dec_f fun hh => by (have h_ := (hh kj (by omega)).2 (by omega); have h2_ := h_.2.1; have h3_ := h_.1; omega)).symm, H18.pm (Pm.nil _)⟩
        ·have c5p := of_decide_eq_false c5
         have hacc : AccOk g t s := ⟨by omega, fun q x he => by
           obtain ⟨i, hi, _⟩ := edge_mem hE (q := 0) (by omega) he
           omega, fun q x he => by
           obtain ⟨i, hi, h1⟩ := edge_mem hE hs he
           have h2 := hsy i (by omega)
           rw [h1] at h2
           dsimp only at h2
           omega⟩
         refine wc_exit ?_
         refine wc_region ?_
         refine wl_v rfl rfl rfl (v_addi rfl rfl (by omega)) ?_
         refine wl_v rfl rfl rfl (v_move rfl) ?_
         refine wl_nil ?_
         first
           | exact ⟨(kj + 1, fun y => S y ∨ y = ((t.mv.getD s []).getD kj mv0).n), (sc rfl (sc rfl (sc rfl (sc rfl (sc rfl (sc rfl (sc rfl (sc rfl (sn _))))))))), ⟨⟨by dsimp only; omega, fun x h_ => h_.elim (hS x) fun e_ => ⟨pi, e_.trans hq0, hpl, of_dec (of_n_f c2)⟩, upto_succ hok ⟨fun _ => by rw [hq0, Int.toNat_natCast]; exact of_dec (of_n_f c2), fun h_ => absurd h_ (by omega)⟩⟩, H.pm (by repeat constructor)⟩, by dsimp only; omega⟩
           | exact ⟨(kj + 1, fun y => S y ∨ y = ((t.mv.getD s []).getD kj mv0).n), (sc rfl (sc rfl (sc rfl (sc rfl (sc rfl (sc rfl (sc rfl (sc rfl (sn _))))))))), ⟨⟨by dsimp only; omega, fun x h_ => h_.elim (hS x) fun e_ => ⟨pi, e_.trans hq0, hpl, by (obtain ⟨pj, e1_, e2_, e3_⟩ := hS _ (of_dec g35p); have e4_ : pj = pi := (by omega); exact e4_ ▸ e3_)⟩, upto_succ hok ⟨fun _ => by (rw [hq0, Int.toNat_natCast]; obtain ⟨pj, e1_, e2_, e3_⟩ := hS _ (of_dec g35p); have e4_ : pj = pi := (by omega); exact e4_ ▸ e3_), fun h_ => absurd h_ (by omega)⟩⟩, H.pm (by repeat constructor)⟩, by dsimp only; omega⟩
           | exact ⟨(kj + 1, S), (sc rfl (sc rfl (sc rfl (sc rfl (sc rfl (sc rfl (sc rfl (sc rfl (sn _))))))))), ⟨⟨by dsimp only; omega, hS, upto_succ hok ⟨fun h_ => absurd h_ (by omega), fun _ => ⟨by omega, hacc⟩⟩⟩, H.pm (by repeat constructor)⟩, by dsimp only; omega⟩
           | exact ⟨(kj + 1, S), (sc rfl (sc rfl (sc rfl (sc rfl (sc rfl (sc rfl (sc rfl (sc rfl (sn _))))))))), ⟨⟨by dsimp only; omega, hS, upto_succ hok ⟨fun h_ => absurd h_ (by omega), fun h_ => absurd h_ (by omega)⟩⟩, H.pm (by repeat constructor)⟩, by dsimp only; omega⟩
      ·have g56p := of_decide_eq_true g56
       refine wl_off rfl rfl g56 rfl ?_
       refine wl_off rfl rfl g56 rfl ?_
       refine wl_off rfl rfl g56 rfl ?_
       refine wl_off rfl rfl g56 rfl ?_
       refine wl_v rfl rfl rfl (v_pick_t rfl g56 rfl) ?_
       refine wl_nil ?_
       refine wc_cond_t rfl ?_
       refine wc_seq ?_
       refine wc_region ?_
       refine wl_v rfl rfl rfl (v_assign rfl) ?_
       refine wl_nil ?_
       refine wc_ret ?_
       first
         | exact ⟨_, res1 rfl rfl, congrArg Value.bool (dec_t fun k hk => hok k (by omega)).symm, H9.pm (Pm.nil _)⟩
         | exact ⟨_, res1 rfl rfl, congrArg Value.bool (dec_f fun hh => by (have h2_ := of_ndec (of_n_t c2); have h_ := (hh kj (by omega)).1 (by omega); rw [hq0, Int.toNat_natCast] at h_; exact h2_ h_)).symm, H9.pm (Pm.nil _)⟩
         | exact ⟨_, res1 rfl rfl, congrArg Value.bool (dec_f fun hh => by (have h2_ := hmj; obtain ⟨_, _, h_⟩ := ((hh kj (by omega)).2 (by omega)).2; obtain ⟨sf_, e1_, e2_⟩ := edge_at hE hs (i := mj) (by omega); have h3_ := h_ _ _ e2_; omega)).symm, H9.pm (Pm.nil _)⟩
         | exact ⟨_, res1 rfl rfl, congrArg Value.bool (dec_f fun hh => by (have h_ := ((hh kj (by omega)).2 (by omega)).2.2.1; have h3_ : 0 < (xss.getD 0 []).length := (by omega); obtain ⟨sf_, e1_, e2_⟩ := edge_at hE (q := 0) (i := 0) (by omega) h3_; exact h_ _ _ e2_)).symm, H9.pm (Pm.nil _)⟩
         | exact ⟨_, res1 rfl rfl, congrArg Value.bool (dec_f fun hh => by (have h_ := (hh kj (by omega)).2 (by omega); have h2_ := h_.2.1; have h3_ := h_.1; omega)).symm, H9.pm (Pm.nil _)⟩
     ·have g52p := of_nd_t g52
      refine wl_off rfl rfl g52 rfl ?_
      refine wl_v rfl rfl rfl (v_pick_t rfl g52 rfl) ?_
      refine wl_v rfl rfl rfl (v_move rfl) ?_
      refine wl_off rfl rfl rfl rfl ?_
      refine wl_off rfl rfl rfl rfl ?_
      refine wl_off rfl rfl rfl rfl ?_
      refine wl_off rfl rfl rfl rfl ?_
      refine wl_off rfl rfl rfl rfl ?_
      refine wl_v rfl rfl rfl (v_pick_t rfl rfl rfl) ?_
      refine wl_nil ?_
      refine wc_cond_t rfl ?_
      refine wc_seq ?_
      refine wc_region ?_
      refine wl_v rfl rfl rfl (v_assign rfl) ?_
      refine wl_nil ?_
      refine wc_ret ?_
      first
        | exact ⟨_, res1 rfl rfl, congrArg Value.bool (dec_t fun k hk => hok k (by omega)).symm, H9.pm (Pm.nil _)⟩
        | exact ⟨_, res1 rfl rfl, congrArg Value.bool (dec_f fun hh => by (have h2_ := of_ndec (of_n_t c2); have h_ := (hh kj (by omega)).1 (by omega); rw [hq0, Int.toNat_natCast] at h_; exact h2_ h_)).symm, H9.pm (Pm.nil _)⟩
        | exact ⟨_, res1 rfl rfl, congrArg Value.bool (dec_f fun hh => by (have h2_ := hmj; obtain ⟨_, _, h_⟩ := ((hh kj (by omega)).2 (by omega)).2; obtain ⟨sf_, e1_, e2_⟩ := edge_at hE hs (i := mj) (by omega); have h3_ := h_ _ _ e2_; omega)).symm, H9.pm (Pm.nil _)⟩
        | exact ⟨_, res1 rfl rfl, congrArg Value.bool (dec_f fun hh => by (have h_ := ((hh kj (by omega)).2 (by omega)).2.2.1; have h3_ : 0 < (xss.getD 0 []).length := (by omega); obtain ⟨sf_, e1_, e2_⟩ := edge_at hE (q := 0) (i := 0) (by omega) h3_; exact h_ _ _ e2_)).symm, H9.pm (Pm.nil _)⟩
        | exact ⟨_, res1 rfl rfl, congrArg Value.bool (dec_f fun hh => by (have h_ := (hh kj (by omega)).2 (by omega); have h2_ := h_.2.1; have h3_ := h_.1; omega)).symm, H9.pm (Pm.nil _)⟩
    ·have c3p := of_decide_eq_false c3
     refine wc_skip ?_
     refine wc_region ?_
     refine wl_v rfl rfl rfl (v_addi rfl rfl (by omega)) ?_
     refine wl_v rfl rfl rfl (v_move rfl) ?_
     refine wl_nil ?_
     first
       | exact ⟨(kj + 1, fun y => S y ∨ y = ((t.mv.getD s []).getD kj mv0).n), (sc rfl (sc rfl (sc rfl (sc rfl (sc rfl (sc rfl (sc rfl (sc rfl (sn _))))))))), ⟨⟨by dsimp only; omega, fun x h_ => h_.elim (hS x) fun e_ => ⟨pi, e_.trans hq0, hpl, of_dec (of_n_f c2)⟩, upto_succ hok ⟨fun _ => by rw [hq0, Int.toNat_natCast]; exact of_dec (of_n_f c2), fun h_ => absurd h_ (by omega)⟩⟩, H9.pm (by repeat constructor)⟩, by dsimp only; omega⟩
       | exact ⟨(kj + 1, fun y => S y ∨ y = ((t.mv.getD s []).getD kj mv0).n), (sc rfl (sc rfl (sc rfl (sc rfl (sc rfl (sc rfl (sc rfl (sc rfl (sn _))))))))), ⟨⟨by dsimp only; omega, fun x h_ => h_.elim (hS x) fun e_ => ⟨pi, e_.trans hq0, hpl, by (obtain ⟨pj, e1_, e2_, e3_⟩ := hS _ (of_dec g35p); have e4_ : pj = pi := (by omega); exact e4_ ▸ e3_)⟩, upto_succ hok ⟨fun _ => by (rw [hq0, Int.toNat_natCast]; obtain ⟨pj, e1_, e2_, e3_⟩ := hS _ (of_dec g35p); have e4_ : pj = pi := (by omega); exact e4_ ▸ e3_), fun h_ => absurd h_ (by omega)⟩⟩, H9.pm (by repeat constructor)⟩, by dsimp only; omega⟩
       | exact ⟨(kj + 1, S), (sc rfl (sc rfl (sc rfl (sc rfl (sc rfl (sc rfl (sc rfl (sc rfl (sn _))))))))), ⟨⟨by dsimp only; omega, hS, upto_succ hok ⟨fun h_ => absurd h_ (by omega), fun _ => ⟨by omega, hacc⟩⟩⟩, H9.pm (by repeat constructor)⟩, by dsimp only; omega⟩
       | exact ⟨(kj + 1, S), (sc rfl (sc rfl (sc rfl (sc rfl (sc rfl (sc rfl (sc rfl (sc rfl (sn _))))))))), ⟨⟨by dsimp only; omega, hS, upto_succ hok ⟨fun h_ => absurd h_ (by omega), fun h_ => absurd h_ (by omega)⟩⟩, H9.pm (by repeat constructor)⟩, by dsimp only; omega⟩
  ·have c0p := of_decide_eq_false c0
   refine wc_exit ?_
   refine wc_seq ?_
   refine wc_region ?_
   refine wl_v rfl rfl rfl (v_assign rfl) ?_
   refine wl_nil ?_
   refine wc_ret ?_
   first
     | exact ⟨_, res1 rfl rfl, congrArg Value.bool (dec_t fun k hk => hok k (by omega)).symm, H.pm (Pm.nil _)⟩
     | exact ⟨_, res1 rfl rfl, congrArg Value.bool (dec_f fun hh => by (have h2_ := of_ndec (of_n_t c2); have h_ := (hh kj (by omega)).1 (by omega); rw [hq0, Int.toNat_natCast] at h_; exact h2_ h_)).symm, H.pm (Pm.nil _)⟩
     | exact ⟨_, res1 rfl rfl, congrArg Value.bool (dec_f fun hh => by (have h2_ := hmj; obtain ⟨_, _, h_⟩ := ((hh kj (by omega)).2 (by omega)).2; obtain ⟨sf_, e1_, e2_⟩ := edge_at hE hs (i := mj) (by omega); have h3_ := h_ _ _ e2_; omega)).symm, H.pm (Pm.nil _)⟩
     | exact ⟨_, res1 rfl rfl, congrArg Value.bool (dec_f fun hh => by (have h_ := ((hh kj (by omega)).2 (by omega)).2.2.1; have h3_ : 0 < (xss.getD 0 []).length := (by omega); obtain ⟨sf_, e1_, e2_⟩ := edge_at hE (q := 0) (i := 0) (by omega) h3_; exact h_ _ _ e2_)).symm, H.pm (Pm.nil _)⟩
     | exact ⟨_, res1 rfl rfl, congrArg Value.bool (dec_f fun hh => by (have h_ := (hh kj (by omega)).2 (by omega); have h2_ := h_.2.1; have h3_ := h_.1; omega)).symm, H.pm (Pm.nil _)⟩
end Go.Proofs.Ytkpehkadammppaa.SoundW

/-! A step laid down. -/
namespace Go.Proofs.Ytkpehkadammppaa.EdgeW
open Go Go.RowKit Go.Proofs.YtkpehkadammppaaFx 
theorem ba134 : BuildAt Try.prog 134 [.int .i64 0, .int .i64 0] [(0, 1), (1, 1)] := build_at Try.underlying134 (by kernel_rfl) (by kernel_rfl)
theorem info134 : (Try.prog.info? 134).map (fun i => (i.zero, i.size, i.bytes)) = some (some (.agg #[.int .i64 0, .int .i64 0]), 2, 16) := by kernel_rfl
theorem info3 : (Try.prog.info? 3).map (fun i => (i.zero, i.size, i.bytes)) = some (some (.int .i64 0), 1, 8) := by kernel_rfl
theorem mixed : Try.prog.follows .mixedOrders = true := by kernel_rfl
theorem one132 : One Try.prog 132 := one_of Try.underlying132 rfl (by kernel_rfl)
theorem one3 : One Try.prog 3 := one_of Try.underlying3 rfl (by kernel_rfl)
theorem one39 : One Try.prog 39 := one_of Try.underlying39 rfl (by kernel_rfl)
theorem one4 : One Try.prog 4 := one_of Try.underlying4 rfl (by kernel_rfl)
theorem one96 : One Try.prog 96 := one_of Try.underlying96 rfl (by kernel_rfl)
theorem one97 : One Try.prog 97 := one_of Try.underlying97 rfl (by kernel_rfl)
theorem sz132 : ∀ W, (sizeOf 132).run Try.prog W = .ok 1 W := size_of (by kernel_rfl)
theorem sz134 : ∀ W, (sizeOf 134).run Try.prog W = .ok 2 W := size_of (by kernel_rfl)
theorem sz3 : ∀ W, (sizeOf 3).run Try.prog W = .ok 1 W := size_of (by kernel_rfl)
theorem sz39 : ∀ W, (sizeOf 39).run Try.prog W = .ok 1 W := size_of (by kernel_rfl)
theorem sz4 : ∀ W, (sizeOf 4).run Try.prog W = .ok 1 W := size_of (by kernel_rfl)
theorem zv134 : ∀ W, (zeroValue 134).run Try.prog W = .ok (.agg #[.int .i64 0, .int .i64 0]) W := zero_of (by kernel_rfl)
theorem zv3 : ∀ W, (zeroValue 3).run Try.prog W = .ok (.int .i64 0) W := zero_of (by kernel_rfl)

set_option maxHeartbeats 1600000 in
set_option maxRecDepth 100000 in
theorem edge_calls {w w1 : World} {L : List Ch} {b6 b10 b7 b8 ci cm q : Nat} {Ai Am : Option Addr} {vt : Value} {xss : List (List Mv)} {met : List Bool} {todo : List Int} {s x : Int} (HH : Holds w (Blk b10 3 [.int .i64 s] :: RR fMv 132 134 (.slice Ai xss.length ci) xss :: Blk b6 96 [.slice Ai xss.length ci] :: Row fBool 4 (.slice Am met.length cm) met :: Blk b7 97 [.slice Am met.length cm] :: Row (fInt .i64) 3 vt todo :: Blk b8 39 [vt] :: L) w1) (hq : q < xss.length) (hm : met.length = xss.length) (hxl : (xss.getD q []).length ≤ 1099511627776) (htl : todo.length ≤ 1099511627776) :
    Calls Try.prog 63 #[.int .i64 x, .int .i64 q, .pointer (some ⟨b6, 0, none⟩), .pointer (some ⟨b10, 0, none⟩), .pointer (some ⟨b7, 0, none⟩), .pointer (some ⟨b8, 0, none⟩)] w1 fun e w' => ∃ v, e = .returned v ∧ ∃ vt2 met2 todo2, v = .tuple #[] ∧ ((met.getD q false = true ∧ met2 = met ∧ todo2 = todo) ∨ (met.getD q false = false ∧ met2 = met.set q true ∧ todo2 = todo ++ [(q : Int)])) ∧ Holds w (Blk b10 3 [.int .i64 s] :: RR fMv 132 134 (.slice Ai xss.length ci) (xss.set q (xss.getD q [] ++ [⟨s, x⟩])) :: Blk b6 96 [.slice Ai xss.length ci] :: Row fBool 4 (.slice Am met.length cm) met2 :: Blk b7 97 [.slice Am met.length cm] :: Row (fInt .i64) 3 vt2 todo2 :: Blk b8 39 [vt2] :: L) w' := by
  have hAi : 0 < xss.length → Ai = some (adr Ai) := by
    obtain ⟨A_, c_, he_, _, _, _, hr_⟩ := HH.rr (f := fMv) (e := 132) (e2 := 134) (v := .slice Ai xss.length ci) (xss := xss) (by repeat constructor)
    injection he_ with e1_ _ _
    rw [e1_]
    exact hr_.ad
  have hRb : 0 < met.length → Am = some (adr Am) := (HH.rrd (f := fBool) (e := 4) (A := Am) (xs := met) (by repeat constructor)).ad
  refine calls_of Try.func63 rfl Try.ntmps63 rfl ?_
  have H := HH
  refine wc_seq ?_
  refine wc_tree [0, 1, 2, 3, 4, 6, 7, 8, 11] (fun W => Holds w [Blk b6 96 [.slice Ai xss.length ci], Blk b10 3 [.int .i64 s]] W) mixed ?_
  have Hd := H.drew
  have HSd : Holds w [Blk b6 96 [.slice Ai xss.length ci], Blk b10 3 [.int .i64 s]] _ := Hd.pm (by repeat constructor)
  refine wj_v (k := 0) rfl (by kernel_rfl) (fun _ _ _ h => h) HSd rfl rfl rfl (fun W HW => v_load one96 rfl (HW.at (by repeat constructor) rfl)) ?_
  refine wj_v (k := 1) rfl (by kernel_rfl) (fun _ _ _ h => h) HSd rfl rfl rfl (fun W HW => v_move rfl) ?_
  refine wj_v (k := 2) rfl (by kernel_rfl) (fun _ _ _ h => h) HSd rfl rfl rfl (fun W HW => v_load one96 rfl (HW.at (by repeat constructor) rfl)) ?_
  refine wj_v (k := 3) rfl (by kernel_rfl) (fun _ _ _ h => h) HSd rfl rfl rfl (fun W HW => v_move rfl) ?_
  refine wj_v (k := 4) rfl (by kernel_rfl) (fun _ _ _ h => h) HSd rfl rfl rfl (fun W HW => v_idx Try.underlying96 sz132 hAi rfl rfl (by omega) (by omega)) ?_
  refine wj_v (k := 6) rfl (by kernel_rfl) (fun _ _ _ h => h) HSd rfl rfl rfl (fun W HW => v_load one3 rfl (HW.at (by repeat constructor) rfl)) ?_
  refine wj_v (k := 7) rfl (by kernel_rfl) (fun _ _ _ h => h) HSd rfl rfl rfl (fun W HW => v_move rfl) ?_
  refine wj_v (k := 8) rfl (by kernel_rfl) (fun _ _ _ h => h) HSd rfl rfl rfl (fun W HW => v_bld ba134 rfl (by repeat constructor)) ?_
  refine wj_2 (k := 5) (k2 := 9) rfl rfl (by kernel_rfl) ?_ ?_
  ·obtain ⟨hs_, Z_, hl_, hn_, hc_, HT_, hput⟩ := (Hd.turn (A := RR fMv 132 134 (.slice Ai xss.length ci) xss) (by repeat constructor)).rrTake (i := q) hq
   refine wl_v rfl rfl rfl (v_load one132 rfl hc_) ?_
   have HS2 : Holds w [Blk b6 96 [.slice Ai xss.length ci], Blk b10 3 [.int .i64 s]] _ := HT_.pm (by repeat constructor)
   refine wl_nil (tn ⟨fun _ => HS2, ?_⟩)
   refine wj_t (k := 9) rfl (by kernel_rfl) ?_
   refine wl_slit (v := .agg #[.int .i64 0, .int .i64 0]) (z := [.int .i64 0, .int .i64 0]) (cs := [.int .i64 s, .int .i64 x]) (sz := 2) HT_ rfl Try.underlying132 sz134 zv134 (by decide) (by decide) (by kernel_rfl) rfl (by repeat constructor) ?_
   intro b17 w3 hb17 H3 hs3
   have HS4 : Holds w [Blk b6 96 [.slice Ai xss.length ci], Blk b10 3 [.int .i64 s]] _ := H3.pm (by repeat constructor)
   refine wl_nil (tn ⟨fun _ => HS4, ?_⟩)
   refine wj_t (k := 10) rfl (by kernel_rfl) ?_
   refine wl_app1 (f := fMv) (xs := xss.getD q []) (y' := ⟨s, x⟩) H3 (fun v' => (by repeat constructor)) (by repeat constructor) rfl Try.underlying132 info134 rfl (by decide) rfl rfl rfl (by omega) (by decide) ?_
   intro A18 z18 w5 H5 hs5
   have HS6 : Holds w [Blk b6 96 [.slice Ai xss.length ci], Blk b10 3 [.int .i64 s]] _ := H5.pm (by repeat constructor)
   refine wl_nil (tn ⟨fun _ => HS6, ?_⟩)
   refine wj_v (k := 11) rfl (by kernel_rfl) (fun _ _ _ h => h) HS6 rfl rfl rfl (fun W HW => v_idx Try.underlying96 sz132 hAi rfl rfl (by omega) (by omega)) ?_
   refine wj_t (k := 12) rfl (by kernel_rfl) ?_
   refine wl_storeR (f := fHd) (xs := hs_) (i := (q : Int)) (x' := (⟨A18, (xss.getD q [] ++ [(⟨s, x⟩ : Mv)]).length, z18⟩ : Go.Proofs.YtkpehkadammppaaFx.Hd)) H5 (by repeat constructor) sz132 rfl rfl rfl (by omega) (by omega) ?_
   intro w7 H7
   first
     | have HP7 := hput _ (⟨A18, (xss.getD q [] ++ [(⟨s, x⟩ : Mv)]).length, z18⟩ : Go.Proofs.YtkpehkadammppaaFx.Hd) _ H7
     | have HP7 := hput _ (⟨A18, (xss.getD q [] ++ [(⟨s, x⟩ : Mv)]).length, z18⟩ : Go.Proofs.YtkpehkadammppaaFx.Hd) _ (Holds.tail H7)
   refine wl_nil (tn ⟨fun hlt => absurd hlt (by rw [show allH _ _ _ = true by kernel_rfl]; simp), ?_⟩)
   refine wj_done (by kernel_rfl) ?_
   refine wc_seq ?_
   refine wc_region ?_
   refine wl_v rfl rfl rfl (v_load one97 rfl (HP7.at (by repeat constructor) rfl)) ?_
   refine wl_v rfl rfl rfl (v_move rfl) ?_
   refine wl_v rfl rfl rfl (v_idx Try.underlying97 sz4 hRb rfl rfl (by omega) (by omega)) ?_
   refine wl_v rfl rfl rfl (v_load one4 rfl ((HP7.rrd (f := fBool) (e := 4) (A := Am) (xs := met) (by repeat constructor)).at1bN (i := q) (by omega))) ?_
   refine wl_v rfl rfl rfl (v_not rfl) ?_
   refine wl_nil ?_
   refine wc_cond rfl (fun c0 => ?_) (fun c0 => ?_)
   ·have c0p := of_n_t c0
    refine wc_seq ?_
    refine wc_region ?_
    refine wl_v rfl rfl rfl (v_load one97 rfl (HP7.at (by repeat constructor) rfl)) ?_
    refine wl_v rfl rfl rfl (v_move rfl) ?_
    refine wl_v rfl rfl rfl (v_idx Try.underlying97 sz4 hRb rfl rfl (by omega) (by omega)) ?_
    refine wl_storeR (f := fBool) (xs := met) (i := (q : Int)) (x' := true) HP7 (by repeat constructor) sz4 rfl rfl rfl (by omega) (by omega) ?_
    intro w9 H9
    refine wl_nil ?_
    refine wc_region ?_
    refine wl_v rfl rfl rfl (v_load one39 rfl (H9.at (by repeat constructor) rfl)) ?_
    refine wl_v rfl rfl rfl (v_move rfl) ?_
    refine wl_slit (v := .int .i64 0) (z := [.int .i64 0]) (cs := [.int .i64 q]) (sz := 1) H9 rfl Try.underlying39 sz3 zv3 (by decide) (by decide) (by kernel_rfl) rfl (by repeat constructor) ?_
    intro b30 w10 hb30 H10 hs10
    refine wl_app1 (f := fInt .i64) (xs := todo) (y' := (q : Int)) H10 (fun v' => (by repeat constructor)) (by repeat constructor) rfl Try.underlying39 info3 rfl (by decide) rfl rfl rfl (by omega) (by decide) ?_
    intro A31 z31 w11 H11 hs11
    refine wl_store (vs := [_]) H11 (by repeat constructor) sz39 rfl rfl rfl rfl rfl (by (repeat constructor)) ?_
    intro w12 H13 hw12
    refine wl_nil ?_
    first
      | exact ⟨_, res0 rfl, _, _, _, rfl, .inr ⟨of_n_t c0, rfl, rfl⟩, H13.pmt (T := L) (by repeat constructor)⟩
      | exact ⟨_, res0 rfl, _, _, _, rfl, .inl ⟨of_n_f c0, rfl, rfl⟩, H13.pmt (T := L) (by repeat constructor)⟩
   ·have c0p := of_n_f c0
    refine wc_skip ?_
    first
      | exact ⟨_, res0 rfl, _, _, _, rfl, .inr ⟨of_n_t c0, rfl, rfl⟩, HP7.pmt (T := L) (by repeat constructor)⟩
      | exact ⟨_, res0 rfl, _, _, _, rfl, .inl ⟨of_n_f c0, rfl, rfl⟩, HP7.pmt (T := L) (by repeat constructor)⟩
  ·refine wl_slit (v := .agg #[.int .i64 0, .int .i64 0]) (z := [.int .i64 0, .int .i64 0]) (cs := [.int .i64 s, .int .i64 x]) (sz := 2) Hd rfl Try.underlying132 sz134 zv134 (by decide) (by decide) (by kernel_rfl) rfl (by repeat constructor) ?_
   intro b17 w14 hb17 H14 hs14
   have HS15 : Holds w [Blk b6 96 [.slice Ai xss.length ci], Blk b10 3 [.int .i64 s]] _ := H14.pm (by repeat constructor)
   refine wl_nil (tn ⟨fun _ => HS15, ?_⟩)
   refine wj_t (k := 5) rfl (by kernel_rfl) ?_
   obtain ⟨hs_, Z_, hl_, hn_, hc_, HT_, hput⟩ := (H14.turn (A := RR fMv 132 134 (.slice Ai xss.length ci) xss) (by repeat constructor)).rrTake (i := q) hq
   refine wl_v rfl rfl rfl (v_load one132 rfl hc_) ?_
   have HS17 : Holds w [Blk b6 96 [.slice Ai xss.length ci], Blk b10 3 [.int .i64 s]] _ := HT_.pm (by repeat constructor)
   refine wl_nil (tn ⟨fun _ => HS17, ?_⟩)
   refine wj_t (k := 10) rfl (by kernel_rfl) ?_
   refine wl_app1 (f := fMv) (xs := xss.getD q []) (y' := ⟨s, x⟩) HT_ (fun v' => (by repeat constructor)) (by repeat constructor) rfl Try.underlying132 info134 rfl (by decide) rfl rfl rfl (by omega) (by decide) ?_
   intro A18 z18 w18 H18 hs18
   have HS19 : Holds w [Blk b6 96 [.slice Ai xss.length ci], Blk b10 3 [.int .i64 s]] _ := H18.pm (by repeat constructor)
   refine wl_nil (tn ⟨fun _ => HS19, ?_⟩)
   refine wj_v (k := 11) rfl (by kernel_rfl) (fun _ _ _ h => h) HS19 rfl rfl rfl (fun W HW => v_idx Try.underlying96 sz132 hAi rfl rfl (by omega) (by omega)) ?_
   refine wj_t (k := 12) rfl (by kernel_rfl) ?_
   refine wl_storeR (f := fHd) (xs := hs_) (i := (q : Int)) (x' := (⟨A18, (xss.getD q [] ++ [(⟨s, x⟩ : Mv)]).length, z18⟩ : Go.Proofs.YtkpehkadammppaaFx.Hd)) H18 (by repeat constructor) sz132 rfl rfl rfl (by omega) (by omega) ?_
   intro w20 H20
   first
     | have HP20 := hput _ (⟨A18, (xss.getD q [] ++ [(⟨s, x⟩ : Mv)]).length, z18⟩ : Go.Proofs.YtkpehkadammppaaFx.Hd) _ H20
     | have HP20 := hput _ (⟨A18, (xss.getD q [] ++ [(⟨s, x⟩ : Mv)]).length, z18⟩ : Go.Proofs.YtkpehkadammppaaFx.Hd) _ (Holds.tail H20)
   refine wl_nil (tn ⟨fun hlt => absurd hlt (by rw [show allH _ _ _ = true by kernel_rfl]; simp), ?_⟩)
   refine wj_done (by kernel_rfl) ?_
   refine wc_seq ?_
   refine wc_region ?_
   refine wl_v rfl rfl rfl (v_load one97 rfl (HP20.at (by repeat constructor) rfl)) ?_
   refine wl_v rfl rfl rfl (v_move rfl) ?_
   refine wl_v rfl rfl rfl (v_idx Try.underlying97 sz4 hRb rfl rfl (by omega) (by omega)) ?_
   refine wl_v rfl rfl rfl (v_load one4 rfl ((HP20.rrd (f := fBool) (e := 4) (A := Am) (xs := met) (by repeat constructor)).at1bN (i := q) (by omega))) ?_
   refine wl_v rfl rfl rfl (v_not rfl) ?_
   refine wl_nil ?_
   refine wc_cond rfl (fun c0 => ?_) (fun c0 => ?_)
   ·have c0p := of_n_t c0
    refine wc_seq ?_
    refine wc_region ?_
    refine wl_v rfl rfl rfl (v_load one97 rfl (HP20.at (by repeat constructor) rfl)) ?_
    refine wl_v rfl rfl rfl (v_move rfl) ?_
    refine wl_v rfl rfl rfl (v_idx Try.underlying97 sz4 hRb rfl rfl (by omega) (by omega)) ?_
    refine wl_storeR (f := fBool) (xs := met) (i := (q : Int)) (x' := true) HP20 (by repeat constructor) sz4 rfl rfl rfl (by omega) (by omega) ?_
    intro w22 H22
    refine wl_nil ?_
    refine wc_region ?_
    refine wl_v rfl rfl rfl (v_load one39 rfl (H22.at (by repeat constructor) rfl)) ?_
    refine wl_v rfl rfl rfl (v_move rfl) ?_
    refine wl_slit (v := .int .i64 0) (z := [.int .i64 0]) (cs := [.int .i64 q]) (sz := 1) H22 rfl Try.underlying39 sz3 zv3 (by decide) (by decide) (by kernel_rfl) rfl (by repeat constructor) ?_
    intro b30 w23 hb30 H23 hs23
    refine wl_app1 (f := fInt .i64) (xs := todo) (y' := (q : Int)) H23 (fun v' => (by repeat constructor)) (by repeat constructor) rfl Try.underlying39 info3 rfl (by decide) rfl rfl rfl (by omega) (by decide) ?_
    intro A31 z31 w24 H24 hs24
    refine wl_store (vs := [_]) H24 (by repeat constructor) sz39 rfl rfl rfl rfl rfl (by (repeat constructor)) ?_
    intro w25 H26 hw25
    refine wl_nil ?_
    first
      | exact ⟨_, res0 rfl, _, _, _, rfl, .inr ⟨of_n_t c0, rfl, rfl⟩, H26.pmt (T := L) (by repeat constructor)⟩
      | exact ⟨_, res0 rfl, _, _, _, rfl, .inl ⟨of_n_f c0, rfl, rfl⟩, H26.pmt (T := L) (by repeat constructor)⟩
   ·have c0p := of_n_f c0
    refine wc_skip ?_
    first
      | exact ⟨_, res0 rfl, _, _, _, rfl, .inr ⟨of_n_t c0, rfl, rfl⟩, HP20.pmt (T := L) (by repeat constructor)⟩
      | exact ⟨_, res0 rfl, _, _, _, rfl, .inl ⟨of_n_f c0, rfl, rfl⟩, HP20.pmt (T := L) (by repeat constructor)⟩
end Go.Proofs.Ytkpehkadammppaa.EdgeW

/-! The steps to each state. -/
namespace Go.Proofs.Ytkpehkadammppaa.EdgesW
open Go Go.RowKit Go.Proofs.YtkpehkadammppaaFx Go.Proofs.Ytkpehkadammppaa.EdgeW
theorem agg48 : Agg Try.prog 48 2 := agg_of Try.underlying48 (by kernel_rfl)
theorem en63 : Enters Try.prog 63 := enters Try.func63 (by kernel_rfl) rfl
theorem fa25_0 : FieldAt Try.prog 25 0 0 := field_at (sz := 0) Try.underlying25 rfl (by kernel_rfl) rfl
theorem fa25_1 : FieldAt Try.prog 25 1 1 := field_at (sz := 0) Try.underlying25 rfl (by kernel_rfl) rfl
theorem fa48_0 : FieldAt Try.prog 48 0 0 := field_at (sz := 0) Try.underlying48 rfl (by kernel_rfl) rfl
theorem fa48_1 : FieldAt Try.prog 48 1 1 := field_at (sz := 0) Try.underlying48 rfl (by kernel_rfl) rfl
theorem fa53_0 : FieldAt Try.prog 53 0 0 := field_at (sz := 0) Try.underlying53 rfl (by kernel_rfl) rfl
theorem info132 : (Try.prog.info? 132).map (fun i => (i.zero, i.size, i.bytes)) = some (some (.slice none 0 0), 1, 24) := by kernel_rfl
theorem info4 : (Try.prog.info? 4).map (fun i => (i.zero, i.size, i.bytes)) = some (some (.bool false), 1, 1) := by kernel_rfl
theorem mixed : Try.prog.follows .mixedOrders = true := by kernel_rfl
theorem one22 : One Try.prog 22 := one_of Try.underlying22 rfl (by kernel_rfl)
theorem one23 : One Try.prog 23 := one_of Try.underlying23 rfl (by kernel_rfl)
theorem one3 : One Try.prog 3 := one_of Try.underlying3 rfl (by kernel_rfl)
theorem one38 : One Try.prog 38 := one_of Try.underlying38 rfl (by kernel_rfl)
theorem one39 : One Try.prog 39 := one_of Try.underlying39 rfl (by kernel_rfl)
theorem one49 : One Try.prog 49 := one_of Try.underlying49 rfl (by kernel_rfl)
theorem one96 : One Try.prog 96 := one_of Try.underlying96 rfl (by kernel_rfl)
theorem one97 : One Try.prog 97 := one_of Try.underlying97 rfl (by kernel_rfl)
theorem sz3 : ∀ W, (sizeOf 3).run Try.prog W = .ok 1 W := size_of (by kernel_rfl)
theorem sz38 : ∀ W, (sizeOf 38).run Try.prog W = .ok 1 W := size_of (by kernel_rfl)
theorem sz39 : ∀ W, (sizeOf 39).run Try.prog W = .ok 1 W := size_of (by kernel_rfl)
theorem sz4 : ∀ W, (sizeOf 4).run Try.prog W = .ok 1 W := size_of (by kernel_rfl)
theorem sz48 : ∀ W, (sizeOf 48).run Try.prog W = .ok 2 W := size_of (by kernel_rfl)
theorem sz96 : ∀ W, (sizeOf 96).run Try.prog W = .ok 1 W := size_of (by kernel_rfl)
theorem sz97 : ∀ W, (sizeOf 97).run Try.prog W = .ok 1 W := size_of (by kernel_rfl)
theorem zv3 : ∀ W, (zeroValue 3).run Try.prog W = .ok (.int .i64 0) W := zero_of (by kernel_rfl)
theorem zv39 : ∀ W, (zeroValue 39).run Try.prog W = .ok (.slice none 0 0) W := zero_of (by kernel_rfl)
theorem zv48 : ∀ W, (zeroValue 48).run Try.prog W = .ok (.agg #[.int .i64 0, .int .i64 0]) W := zero_of (by kernel_rfl)
theorem zv96 : ∀ W, (zeroValue 96).run Try.prog W = .ok (.slice none 0 0) W := zero_of (by kernel_rfl)
theorem zv97 : ∀ W, (zeroValue 97).run Try.prog W = .ok (.slice none 0 0) W := zero_of (by kernel_rfl)

set_option maxHeartbeats 6400000 in
set_option maxRecDepth 100000 in
theorem edges_calls {g : Pl} {a : PlA} {t : Tb} {A B : Option Addr} {ca cb : Nat} {w : World} (hx : t.rd w A B) (hf : Fit2 g t) (hgk : g.kinds.length ≤ 1024) (hgr : g.rules.length ≤ 2048) :
    Calls Try.prog 44 #[.agg #[.slice a.k g.kinds.length a.ck, .slice a.p g.precs.length a.cp, .slice a.r g.rules.length a.cr, .slice a.q g.prods.length a.cq, .int .i64 g.start], .agg #[.slice A t.mv.length ca, .slice B t.go.length cb]] w fun e w' => ∃ v, e = .returned v ∧ ∃ (Ai Am : Option Addr) (xss : List (List Mv)) (met : List Bool), v = .tuple #[.slice Ai t.mv.length t.mv.length, .slice Am t.mv.length t.mv.length] ∧ Edges g t xss met ∧ Holds w [RR fMv 132 134 (.slice Ai t.mv.length t.mv.length) xss, Row fBool 4 (.slice Am t.mv.length t.mv.length) met] w' := by
  have hn1 := hf.1
  have hn2 := hf.2.1
  have hng := hf.2.2.1
  have hrow := hf.2.2.2
  refine calls_of Try.func44 rfl Try.ntmps44 rfl ?_
  have H := Holds.start w
  refine wc_seq ?_
  refine wc_region ?_
  refine wl_box (cs := [_, _, _, _, _]) H rfl rfl rfl ?_
  intro b2 w1 hb2 H2
  refine wl_box (cs := [_, _]) H2 rfl rfl rfl ?_
  intro b3 w3 hb3 H4
  refine wl_v rfl rfl rfl (v_assign rfl) ?_
  refine wl_v rfl rfl rfl (v_assign rfl) ?_
  refine wl_nil ?_
  refine wc_seq ?_
  refine wc_region ?_
  refine wl_v rfl rfl rfl (v_fb (o2 := 0) fa25_0 rfl rfl) ?_
  refine wl_v rfl rfl rfl (v_load one22 rfl (H4.at (by repeat constructor) rfl)) ?_
  refine wl_v rfl rfl rfl (v_len Try.underlying22 rfl) ?_
  refine wl_make (f := fHd) (z' := hd0) H4 rfl Try.underlying96 info132 rfl (by decide) rfl rfl (by omega) (by omega) (by decide) ?_
  rw [Int.toNat_natCast]
  intro Ai w5 H5 hs5
  replace H5 := H5.rrMade (f := fMv) (e2 := 134)
  refine wl_alloc (cs := [.slice none 0 0]) H5 rfl zv96 rfl ?_
  intro b6 w6 hb6 H7
  refine wl_store (vs := [_]) H7 (by repeat constructor) sz96 rfl rfl rfl rfl rfl (by (repeat constructor)) ?_
  intro w8 H9 hw8
  refine wl_nil ?_
  refine wc_seq ?_
  refine wc_region ?_
  refine wl_v rfl rfl rfl (v_fb (o2 := 0) fa25_0 rfl rfl) ?_
  refine wl_v rfl rfl rfl (v_load one22 rfl (H9.at (by repeat constructor) rfl)) ?_
  refine wl_v rfl rfl rfl (v_len Try.underlying22 rfl) ?_
  refine wl_make (f := fBool) (z' := false) H9 rfl Try.underlying97 info4 rfl (by decide) rfl rfl (by omega) (by omega) (by decide) ?_
  rw [Int.toNat_natCast]
  intro Am w10 H10 hs10
  refine wl_alloc (cs := [.slice none 0 0]) H10 rfl zv97 rfl ?_
  intro b7 w11 hb7 H12
  refine wl_store (vs := [_]) H12 (by repeat constructor) sz97 rfl rfl rfl rfl rfl (by (repeat constructor)) ?_
  intro w13 H14 hw13
  refine wl_nil ?_
  refine wc_seq ?_
  refine wc_region ?_
  refine wl_v rfl rfl rfl (v_load one97 rfl (H14.at (by repeat constructor) rfl)) ?_
  refine wl_v rfl rfl rfl (v_idx Try.underlying97 sz4 (fun h_ => (H14.rrd (f := fBool) (e := 4) (A := Am) (xs := List.replicate t.mv.length false) (by repeat constructor)).ad (by rw [List.length_replicate]; exact h_)) rfl rfl (by omega) (by omega)) ?_
  refine wl_storeR (f := fBool) (xs := List.replicate t.mv.length false) (i := (0 : Int)) (x' := true) H14 (by repeat constructor) sz4 rfl rfl rfl (by omega) (by rw [List.length_replicate]; omega) ?_
  intro w15 H15
  refine wl_nil ?_
  refine wc_seq ?_
  refine wc_region ?_
  refine wl_slit (v := .int .i64 0) (z := [.int .i64 0]) (cs := [.int .i64 0]) (sz := 1) H15 rfl Try.underlying39 sz3 zv3 (by decide) (by decide) (by kernel_rfl) rfl (by repeat constructor) ?_
  intro b26 w16 hb26 H16 hs16
  replace H16 := H16.litRow (f := fInt .i64) (xs := [0]) (by decide)
  refine wl_alloc (cs := [.slice none 0 0]) H16 rfl zv39 rfl ?_
  intro b8 w17 hb8 H18
  refine wl_store (vs := [_]) H18 (by repeat constructor) sz39 rfl rfl rfl rfl rfl (by (repeat constructor)) ?_
  intro w19 H20 hw19
  refine wl_nil ?_
  refine wc_seq ?_
  refine wc_seq ?_
  refine wc_region ?_
  refine wl_v rfl rfl rfl (v_assign rfl) ?_
  refine wl_nil ?_
  refine wc_block ?_
  refine wc_loop (σ := List Int × List Bool × List (List Mv) × Value × Nat) (fun s' => [(2, .pointer (some ⟨b2, 0, none⟩)), (3, .pointer (some ⟨b3, 0, none⟩)), (6, .pointer (some ⟨b6, 0, none⟩)), (7, .pointer (some ⟨b7, 0, none⟩)), (8, .pointer (some ⟨b8, 0, none⟩)), (9, .int .i64 s'.2.2.2.2)]) (fun s' W => (EdI g t (D0 g t (s'.1.take s'.2.2.2.2)) s'.1 s'.2.1 s'.2.2.1 (s'.2.2.2.2 * 4096) ∧ s'.2.2.2.2 ≤ s'.1.length) ∧ Holds w [RR fMv 132 134 (.slice Ai t.mv.length t.mv.length) s'.2.2.1, Blk b6 96 [.slice Ai t.mv.length t.mv.length], Row fBool 4 (.slice Am t.mv.length t.mv.length) s'.2.1, Blk b7 97 [.slice Am t.mv.length t.mv.length], Row (fInt .i64) 3 s'.2.2.2.1 s'.1, Blk b8 39 [s'.2.2.2.1], Blk b3 25 [.slice A t.mv.length ca, .slice B t.go.length cb], Blk b2 53 [.slice a.k g.kinds.length a.ck, .slice a.p g.precs.length a.cp, .slice a.r g.rules.length a.cr, .slice a.q g.prods.length a.cq, .int .i64 g.start]] W) (fun s' => t.mv.length - s'.2.2.2.2) ([0], (List.replicate t.mv.length false).set 0 true, List.replicate t.mv.length [], .slice (some ⟨b26, 0, none⟩) 1 1, 0) (sc rfl (sc rfl (sc rfl (sc rfl (sc rfl (sc rfl (sn _))))))) ⟨⟨(EdI.start (by omega)).cong (Nat.le_refl _) d0_nil, Nat.zero_le _⟩, H20.pm (by repeat constructor)⟩ ?_
  rintro ⟨todo, met, xss, vt, i⟩ W0 ⟨⟨hI, hi⟩, H⟩
  dsimp only at hI hi H ⊢
  have hlen := hI.len
  obtain ⟨At, ct, rfl⟩ := H.rform (f := fInt .i64) (e := 3) (v := vt) (xs := todo) (by repeat constructor)
  refine wc_seq ?_
  refine wc_seq ?_
  refine wc_region ?_
  refine wl_v rfl rfl rfl (v_move rfl) ?_
  refine wl_v rfl rfl rfl (v_load one39 rfl (H.at (by repeat constructor) rfl)) ?_
  refine wl_v rfl rfl rfl (v_len Try.underlying39 rfl) ?_
  refine wl_v rfl rfl rfl (v_lss rfl rfl) ?_
  refine wl_nil ?_
  refine wc_cond rfl (fun c0 => ?_) (fun c0 => ?_)
  ·have c0p := of_decide_eq_true c0
   have hin : i < todo.length := by omega
   obtain ⟨s, hs1, hsn, hsr⟩ := hI.hr _ (getD_mem (z := 0) hin)
   have hsin : (s : Int) ∈ todo := by rw [← hs1]; exact getD_mem hin
   obtain ⟨hr1, hr2, hr3, hr4⟩ := hrow s hsn
   obtain ⟨dn, hdn⟩ : ∃ dn, dn = todo.take i := ⟨_, rfl⟩
   obtain ⟨todo0, htodo0⟩ : ∃ todo0, todo0 = todo := ⟨_, rfl⟩
   have hdn0 : dn = todo0.take i ∧ i < todo0.length ∧ todo0.getD i 0 = (s : Int) := by rw [htodo0]; exact ⟨hdn, hin, hs1⟩
   rw [← hdn] at hI
   refine wc_skip ?_
   refine wc_seq ?_
   refine wc_block ?_
   refine wc_seq ?_
   refine wc_region ?_
   refine wl_v rfl rfl rfl (v_load one39 rfl (H.at (by repeat constructor) rfl)) ?_
   refine wl_v rfl rfl rfl (v_move rfl) ?_
   refine wl_v rfl rfl rfl (v_idx Try.underlying39 sz3 (H.rrd (f := fInt .i64) (e := 3) (A := At) (xs := todo) (by repeat constructor)).ad rfl rfl (by omega) (by omega)) ?_
   refine wl_v rfl rfl rfl (v_load (v := .int .i64 (s : Int)) one3 rfl (by rw [← hs1]; exact (H.rrd (f := fInt .i64) (e := 3) (A := At) (xs := todo) (by repeat constructor)).at1N (i := i) (by omega))) ?_
   refine wl_alloc (cs := [.int .i64 0]) H rfl zv3 rfl ?_
   intro b10 w22 hb10 H23
   refine wl_store (vs := [_]) H23 (by repeat constructor) sz3 rfl rfl rfl rfl rfl (by (repeat constructor)) ?_
   intro w24 H25 hw24
   refine wl_nil ?_
   refine wc_seq ?_
   refine wc_region ?_
   refine wl_v rfl rfl rfl (v_fn rfl rfl) ?_
   refine wl_v rfl rfl rfl (v_assign rfl) ?_
   refine wl_nil ?_
   refine wc_seq ?_
   refine wc_seq ?_
   refine wc_region ?_
   refine wl_v rfl rfl rfl (v_fb (o2 := 0) fa25_0 rfl rfl) ?_
   refine wl_v rfl rfl rfl (v_load one22 rfl (H25.at (by repeat constructor) rfl)) ?_
   refine wl_v rfl rfl rfl (v_load one3 rfl (H25.at (by repeat constructor) rfl)) ?_
   refine wl_v rfl rfl rfl (v_idx Try.underlying22 sz38 hx.m.ad rfl rfl (by omega) (by omega)) ?_
   obtain ⟨B42, cp42, hc42, hl42, hr42⟩ := hx.m.atSlN (i := s) (by omega)
   refine wl_v rfl rfl rfl (v_load one38 rfl (H25.cell (hc42))) ?_
   refine wl_v rfl rfl rfl (v_len Try.underlying38 rfl) ?_
   refine wl_v rfl rfl rfl (v_move rfl) ?_
   refine wl_nil ?_
   refine wc_block ?_
   refine wc_loop (σ := List Int × List Bool × List (List Mv) × Value × Nat) (fun s' => [(2, .pointer (some ⟨b2, 0, none⟩)), (3, .pointer (some ⟨b3, 0, none⟩)), (6, .pointer (some ⟨b6, 0, none⟩)), (7, .pointer (some ⟨b7, 0, none⟩)), (8, .pointer (some ⟨b8, 0, none⟩)), (9, .int .i64 i), (10, .pointer (some ⟨b10, 0, none⟩)), (11, .func (.func 63) #[] #[.pointer (some ⟨b6, 0, none⟩), .pointer (some ⟨b10, 0, none⟩), .pointer (some ⟨b7, 0, none⟩), .pointer (some ⟨b8, 0, none⟩)]), (42, .slice B42 (t.mv.getD s []).length cp42), (43, .int .i64 (t.mv.getD s []).length), (44, .int .i64 s'.2.2.2.2)]) (fun s' W => ((EdI g t (Dn g t dn s s'.2.2.2.2 0) s'.1 s'.2.1 s'.2.2.1 (i * 4096 + s'.2.2.2.2) ∧ s'.2.2.2.2 ≤ (t.mv.getD s []).length) ∧ (s : Int) ∈ s'.1 ∧ ∃ more, s'.1 = todo0 ++ more) ∧ Holds w [Blk b10 3 [.int .i64 s], RR fMv 132 134 (.slice Ai t.mv.length t.mv.length) s'.2.2.1, Blk b6 96 [.slice Ai t.mv.length t.mv.length], Row fBool 4 (.slice Am t.mv.length t.mv.length) s'.2.1, Blk b7 97 [.slice Am t.mv.length t.mv.length], Row (fInt .i64) 3 s'.2.2.2.1 s'.1, Blk b8 39 [s'.2.2.2.1], Blk b3 25 [.slice A t.mv.length ca, .slice B t.go.length cb], Blk b2 53 [.slice a.k g.kinds.length a.ck, .slice a.p g.precs.length a.cp, .slice a.r g.rules.length a.cr, .slice a.q g.prods.length a.cq, .int .i64 g.start]] W) (fun s' => (t.mv.getD s []).length - s'.2.2.2.2) (todo, met, xss, .slice At todo.length ct, 0) (sc rfl (sc rfl (sc rfl (sc rfl (sc rfl (sc rfl (sc rfl (sc rfl (sc rfl (sc rfl (sc rfl (sn _)))))))))))) ⟨⟨⟨hI.cong (by omega) dn_first, Nat.zero_le _⟩, hsin, [], by rw [List.append_nil]; exact htodo0.symm⟩, H25.pm (by repeat constructor)⟩ ?_
   rintro ⟨todo, met, xss, vt, kj⟩ W1 ⟨⟨⟨hI, hk⟩, hsin, more, hmore⟩, H⟩
   dsimp only at hI hk hsin hmore H ⊢
   refine wc_seq ?_
   refine wc_region ?_
   refine wl_v rfl rfl rfl (v_lss rfl rfl) ?_
   refine wl_nil ?_
   refine wc_seq ?_
   refine wc_cond rfl (fun c1 => ?_) (fun c1 => ?_)
   ·have c1p := of_decide_eq_true c1
    refine wc_skip ?_
    refine wc_seq ?_
    refine wc_block ?_
    refine wc_seq ?_
    refine wc_region ?_
    refine wl_v rfl rfl rfl (v_move rfl) ?_
    refine wl_v rfl rfl rfl (v_idx Try.underlying38 sz48 hr42.ad rfl rfl (by omega) (by omega)) ?_
    refine wl_v rfl rfl rfl (v_loadN (cs := fMv.enc _) agg48 rfl rfl (fun k u hu => H.cell (hr42.atN (i := kj) (k := k) mv0 (by omega) hu))) ?_
    refine wl_alloc (cs := [.int .i64 0, .int .i64 0]) H rfl zv48 rfl ?_
    intro b13 w26 hb13 H27
    refine wl_v rfl rfl rfl (v_assign rfl) ?_
    refine wl_store (vs := [_, _]) H27 (by repeat constructor) sz48 rfl rfl rfl rfl rfl (by (repeat constructor)) ?_
    intro w28 H29 hw28
    refine wl_nil ?_
    refine wc_seq ?_
    refine wc_region ?_
    refine wl_v rfl rfl rfl (v_fb (o2 := 0) fa48_0 rfl rfl) ?_
    refine wl_v rfl rfl rfl (v_load one3 rfl (H29.at (by repeat constructor) rfl)) ?_
    refine wl_v rfl rfl rfl (v_eql rfl rfl) ?_
    refine wl_nil ?_
    refine wc_cond rfl (fun c2 => ?_) (fun c2 => ?_)
    ·have c2p := of_decide_eq_true c2
     obtain ⟨q, hq0, hqn⟩ : ∃ q : Nat, ((t.mv.getD s []).getD kj mv0).n = (q : Int) ∧ q < t.mv.length := by
       have h_ := hr3 kj (by omega)
       unfold mvOk at h_
       exact ⟨((t.mv.getD s []).getD kj mv0).n.toNat, by omega, by omega⟩
     refine wc_region ?_
     refine wl_v rfl rfl rfl (v_move rfl) ?_
     refine wl_v rfl rfl rfl (v_move rfl) ?_
     refine wl_v rfl rfl rfl (v_fb (o2 := 1) fa48_1 rfl rfl) ?_
     refine wl_v rfl rfl rfl (v_load one3 rfl (H29.at (by repeat constructor) rfl)) ?_
     refine wl_callv (first := []) (captured := [.pointer (some ⟨b6, 0, none⟩), .pointer (some ⟨b10, 0, none⟩), .pointer (some ⟨b7, 0, none⟩), .pointer (some ⟨b8, 0, none⟩)]) en63 rfl rfl rfl (by (have hq_ := hq0; rw [hq_]; have hE_ := edge_calls (L := [Blk b3 25 [.slice A t.mv.length ca, .slice B t.go.length cb], Blk b2 53 [.slice a.k g.kinds.length a.ck, .slice a.p g.precs.length a.cp, .slice a.r g.rules.length a.cr, .slice a.q g.prods.length a.cq, .int .i64 g.start]]) (b6 := b6) (b10 := b10) (b7 := b7) (b8 := b8) (ci := t.mv.length) (cm := t.mv.length) (q := q) (Ai := Ai) (Am := Am) (vt := vt) (xss := xss) (met := met) (todo := todo) (s := (s : Int)) (x := (kj : Int)) (by rw [hI.lx, hI.lm]; exact H29.pm (by repeat constructor)) (by rw [hI.lx]; omega) (by rw [hI.lx, hI.lm]) (Nat.le_trans (hI.hc _) (by omega)) (by have h_ := hI.len; omega); rw [hI.lx, hI.lm] at hE_; exact hE_)) ?_
     rintro _ w30 ⟨vt2, met2, todo2, rfl, hcase, Hc⟩
     refine wl_nil ?_
     refine wc_region ?_
     refine wl_v rfl rfl rfl (v_addi rfl rfl (by omega)) ?_
     refine wl_v rfl rfl rfl (v_move rfl) ?_
     refine wl_nil ?_
     first
       | exact ⟨(todo2, met2, _, vt2, kj + 1), (sc rfl (sc rfl (sc rfl (sc rfl (sc rfl (sc rfl (sc rfl (sc rfl (sc rfl (sc rfl (sc rfl (sn _)))))))))))), ⟨⟨⟨((hI.add hsin (.inl ⟨kj, by omega, rfl, c2p, hq0⟩) hqn hcase).cong (Nat.le_refl _) (dn_madd (by omega) c2p hq0)), by dsimp only; omega⟩, by (rcases hcase with ⟨_, _, rfl⟩ | ⟨_, _, rfl⟩; exact hsin; exact List.mem_append_left _ hsin), by (rcases hcase with ⟨_, _, rfl⟩ | ⟨_, _, rfl⟩; exact ⟨more, hmore⟩; exact ⟨more ++ [_], by rw [hmore, List.append_assoc]⟩)⟩, Hc.pm (by repeat constructor)⟩, by dsimp only; omega⟩
       | exact ⟨(todo, met, xss, vt, kj + 1), (sc rfl (sc rfl (sc rfl (sc rfl (sc rfl (sc rfl (sc rfl (sc rfl (sc rfl (sc rfl (sc rfl (sn _)))))))))))), ⟨⟨⟨hI.cong (by dsimp only; omega) (dn_mskip (by omega) c2p), by dsimp only; omega⟩, hsin, more, hmore⟩, Hc.pm (by repeat constructor)⟩, by dsimp only; omega⟩
    ·have c2p := of_decide_eq_false c2
     refine wc_skip ?_
     refine wc_region ?_
     refine wl_v rfl rfl rfl (v_addi rfl rfl (by omega)) ?_
     refine wl_v rfl rfl rfl (v_move rfl) ?_
     refine wl_nil ?_
     first
       | exact ⟨(todo2, met2, _, vt2, kj + 1), (sc rfl (sc rfl (sc rfl (sc rfl (sc rfl (sc rfl (sc rfl (sc rfl (sc rfl (sc rfl (sc rfl (sn _)))))))))))), ⟨⟨⟨((hI.add hsin (.inl ⟨kj, by omega, rfl, c2p, hq0⟩) hqn hcase).cong (Nat.le_refl _) (dn_madd (by omega) c2p hq0)), by dsimp only; omega⟩, by (rcases hcase with ⟨_, _, rfl⟩ | ⟨_, _, rfl⟩; exact hsin; exact List.mem_append_left _ hsin), by (rcases hcase with ⟨_, _, rfl⟩ | ⟨_, _, rfl⟩; exact ⟨more, hmore⟩; exact ⟨more ++ [_], by rw [hmore, List.append_assoc]⟩)⟩, H29.pm (by repeat constructor)⟩, by dsimp only; omega⟩
       | exact ⟨(todo, met, xss, vt, kj + 1), (sc rfl (sc rfl (sc rfl (sc rfl (sc rfl (sc rfl (sc rfl (sc rfl (sc rfl (sc rfl (sc rfl (sn _)))))))))))), ⟨⟨⟨hI.cong (by dsimp only; omega) (dn_mskip (by omega) c2p), by dsimp only; omega⟩, hsin, more, hmore⟩, H29.pm (by repeat constructor)⟩, by dsimp only; omega⟩
   ·have c1p := of_decide_eq_false c1
    obtain ⟨km, hkm⟩ : ∃ km, km = kj := ⟨_, rfl⟩
    rw [← hkm] at hI
    refine wc_exit ?_
    refine wc_seq ?_
    refine wc_region ?_
    refine wl_v rfl rfl rfl (v_fb (o2 := 1) fa25_1 rfl rfl) ?_
    refine wl_v rfl rfl rfl (v_load one23 rfl (H.at (by repeat constructor) rfl)) ?_
    refine wl_v rfl rfl rfl (v_load one3 rfl (H.at (by repeat constructor) rfl)) ?_
    refine wl_v rfl rfl rfl (v_idx Try.underlying23 sz39 hx.g.ad rfl rfl (by omega) (by omega)) ?_
    obtain ⟨B62, cp62, hc62, hl62, hr62⟩ := hx.g.atSlN (i := s) (by omega)
    refine wl_v rfl rfl rfl (v_load one39 rfl (H.cell (hc62))) ?_
    refine wl_v rfl rfl rfl (v_len Try.underlying39 rfl) ?_
    refine wl_v rfl rfl rfl (v_move rfl) ?_
    refine wl_nil ?_
    refine wc_block ?_
    refine wc_loop (σ := List Int × List Bool × List (List Mv) × Value × Nat) (fun s' => [(2, .pointer (some ⟨b2, 0, none⟩)), (3, .pointer (some ⟨b3, 0, none⟩)), (6, .pointer (some ⟨b6, 0, none⟩)), (7, .pointer (some ⟨b7, 0, none⟩)), (8, .pointer (some ⟨b8, 0, none⟩)), (9, .int .i64 i), (10, .pointer (some ⟨b10, 0, none⟩)), (11, .func (.func 63) #[] #[.pointer (some ⟨b6, 0, none⟩), .pointer (some ⟨b10, 0, none⟩), .pointer (some ⟨b7, 0, none⟩), .pointer (some ⟨b8, 0, none⟩)]), (62, .slice B62 (t.go.getD s []).length cp62), (63, .int .i64 (t.go.getD s []).length), (64, .int .i64 s'.2.2.2.2)]) (fun s' W => ((EdI g t (Dn g t dn s km s'.2.2.2.2) s'.1 s'.2.1 s'.2.2.1 (i * 4096 + km + s'.2.2.2.2) ∧ s'.2.2.2.2 ≤ (t.go.getD s []).length) ∧ (s : Int) ∈ s'.1 ∧ ∃ more, s'.1 = todo0 ++ more) ∧ Holds w [Blk b10 3 [.int .i64 s], RR fMv 132 134 (.slice Ai t.mv.length t.mv.length) s'.2.2.1, Blk b6 96 [.slice Ai t.mv.length t.mv.length], Row fBool 4 (.slice Am t.mv.length t.mv.length) s'.2.1, Blk b7 97 [.slice Am t.mv.length t.mv.length], Row (fInt .i64) 3 s'.2.2.2.1 s'.1, Blk b8 39 [s'.2.2.2.1], Blk b3 25 [.slice A t.mv.length ca, .slice B t.go.length cb], Blk b2 53 [.slice a.k g.kinds.length a.ck, .slice a.p g.precs.length a.cp, .slice a.r g.rules.length a.cr, .slice a.q g.prods.length a.cq, .int .i64 g.start]] W) (fun s' => (t.go.getD s []).length - s'.2.2.2.2) (todo, met, xss, vt, 0) (sc rfl (sc rfl (sc rfl (sc rfl (sc rfl (sc rfl (sc rfl (sc rfl (sc rfl (sc rfl (sc rfl (sn _)))))))))))) ⟨⟨⟨hI, Nat.zero_le _⟩, hsin, more, hmore⟩, H.pm (by repeat constructor)⟩ ?_
    rintro ⟨todo, met, xss, vt, kj⟩ W2 ⟨⟨⟨hI, hk⟩, hsin, more, hmore⟩, H⟩
    dsimp only at hI hk hsin hmore H ⊢
    refine wc_seq ?_
    refine wc_region ?_
    refine wl_v rfl rfl rfl (v_lss rfl rfl) ?_
    refine wl_nil ?_
    refine wc_seq ?_
    refine wc_cond rfl (fun c3 => ?_) (fun c3 => ?_)
    ·have c3p := of_decide_eq_true c3
     refine wc_skip ?_
     refine wc_seq ?_
     refine wc_block ?_
     refine wc_seq ?_
     refine wc_region ?_
     refine wl_v rfl rfl rfl (v_move rfl) ?_
     refine wl_v rfl rfl rfl (v_idx Try.underlying39 sz3 hr62.ad rfl rfl (by omega) (by omega)) ?_
     refine wl_v rfl rfl rfl (v_load one3 rfl (H.cell (hr62.at1N (i := kj) (by omega)))) ?_
     refine wl_v rfl rfl rfl (v_assign rfl) ?_
     refine wl_v rfl rfl rfl (v_assign rfl) ?_
     refine wl_nil ?_
     refine wc_seq ?_
     refine wc_region ?_
     refine wl_v rfl rfl rfl (v_move rfl) ?_
     refine wl_v rfl rfl rfl (v_geq rfl rfl) ?_
     refine wl_nil ?_
     refine wc_cond rfl (fun c4 => ?_) (fun c4 => ?_)
     ·have c4p := of_decide_eq_true c4
      obtain ⟨q, hq0, hqn⟩ : ∃ q : Nat, ((t.go.getD s []).getD kj 0) = (q : Int) ∧ q < t.mv.length := by
        have h_ := hr4 kj (by omega)
        unfold goOk at h_
        exact ⟨((t.go.getD s []).getD kj 0).toNat, by omega, by omega⟩
      refine wc_region ?_
      refine wl_v rfl rfl rfl (v_move rfl) ?_
      refine wl_v rfl rfl rfl (v_fb (o2 := 0) fa53_0 rfl rfl) ?_
      refine wl_v rfl rfl rfl (v_load one49 rfl (H.at (by repeat constructor) rfl)) ?_
      refine wl_v rfl rfl rfl (v_len Try.underlying49 rfl) ?_
      refine wl_v rfl rfl rfl (v_move rfl) ?_
      refine wl_v rfl rfl rfl (v_addi rfl rfl (by omega)) ?_
      refine wl_v rfl rfl rfl (v_move rfl) ?_
      refine wl_callv (first := []) (captured := [.pointer (some ⟨b6, 0, none⟩), .pointer (some ⟨b10, 0, none⟩), .pointer (some ⟨b7, 0, none⟩), .pointer (some ⟨b8, 0, none⟩)]) en63 rfl rfl rfl (by (have hq_ := hq0; rw [hq_]; have hE_ := edge_calls (L := [Blk b3 25 [.slice A t.mv.length ca, .slice B t.go.length cb], Blk b2 53 [.slice a.k g.kinds.length a.ck, .slice a.p g.precs.length a.cp, .slice a.r g.rules.length a.cr, .slice a.q g.prods.length a.cq, .int .i64 g.start]]) (b6 := b6) (b10 := b10) (b7 := b7) (b8 := b8) (ci := t.mv.length) (cm := t.mv.length) (q := q) (Ai := Ai) (Am := Am) (vt := vt) (xss := xss) (met := met) (todo := todo) (s := (s : Int)) (x := ((g.kinds.length : Int) + kj)) (by rw [hI.lx, hI.lm]; exact H.pm (by repeat constructor)) (by rw [hI.lx]; omega) (by rw [hI.lx, hI.lm]) (Nat.le_trans (hI.hc _) (by omega)) (by have h_ := hI.len; omega); rw [hI.lx, hI.lm] at hE_; exact hE_)) ?_
      rintro _ w31 ⟨vt2, met2, todo2, rfl, hcase, Hc⟩
      refine wl_nil ?_
      refine wc_region ?_
      refine wl_v rfl rfl rfl (v_addi rfl rfl (by omega)) ?_
      refine wl_v rfl rfl rfl (v_move rfl) ?_
      refine wl_nil ?_
      first
        | exact ⟨(todo2, met2, _, vt2, kj + 1), (sc rfl (sc rfl (sc rfl (sc rfl (sc rfl (sc rfl (sc rfl (sc rfl (sc rfl (sc rfl (sc rfl (sn _)))))))))))), ⟨⟨⟨((hI.add hsin (.inr ⟨kj, by omega, rfl, hq0⟩) hqn hcase).cong (Nat.le_refl _) (dn_gadd (by omega) hq0)), by dsimp only; omega⟩, by (rcases hcase with ⟨_, _, rfl⟩ | ⟨_, _, rfl⟩; exact hsin; exact List.mem_append_left _ hsin), by (rcases hcase with ⟨_, _, rfl⟩ | ⟨_, _, rfl⟩; exact ⟨more, hmore⟩; exact ⟨more ++ [_], by rw [hmore, List.append_assoc]⟩)⟩, Hc.pm (by repeat constructor)⟩, by dsimp only; omega⟩
        | exact ⟨(todo, met, xss, vt, kj + 1), (sc rfl (sc rfl (sc rfl (sc rfl (sc rfl (sc rfl (sc rfl (sc rfl (sc rfl (sc rfl (sc rfl (sn _)))))))))))), ⟨⟨⟨hI.cong (by dsimp only; omega) (dn_gskip (by omega) (by omega)), by dsimp only; omega⟩, hsin, more, hmore⟩, Hc.pm (by repeat constructor)⟩, by dsimp only; omega⟩
     ·have c4p := of_decide_eq_false c4
      refine wc_skip ?_
      refine wc_region ?_
      refine wl_v rfl rfl rfl (v_addi rfl rfl (by omega)) ?_
      refine wl_v rfl rfl rfl (v_move rfl) ?_
      refine wl_nil ?_
      first
        | exact ⟨(todo2, met2, _, vt2, kj + 1), (sc rfl (sc rfl (sc rfl (sc rfl (sc rfl (sc rfl (sc rfl (sc rfl (sc rfl (sc rfl (sc rfl (sn _)))))))))))), ⟨⟨⟨((hI.add hsin (.inr ⟨kj, by omega, rfl, hq0⟩) hqn hcase).cong (Nat.le_refl _) (dn_gadd (by omega) hq0)), by dsimp only; omega⟩, by (rcases hcase with ⟨_, _, rfl⟩ | ⟨_, _, rfl⟩; exact hsin; exact List.mem_append_left _ hsin), by (rcases hcase with ⟨_, _, rfl⟩ | ⟨_, _, rfl⟩; exact ⟨more, hmore⟩; exact ⟨more ++ [_], by rw [hmore, List.append_assoc]⟩)⟩, H.pm (by repeat constructor)⟩, by dsimp only; omega⟩
        | exact ⟨(todo, met, xss, vt, kj + 1), (sc rfl (sc rfl (sc rfl (sc rfl (sc rfl (sc rfl (sc rfl (sc rfl (sc rfl (sc rfl (sc rfl (sn _)))))))))))), ⟨⟨⟨hI.cong (by dsimp only; omega) (dn_gskip (by omega) (by omega)), by dsimp only; omega⟩, hsin, more, hmore⟩, H.pm (by repeat constructor)⟩, by dsimp only; omega⟩
    ·have c3p := of_decide_eq_false c3
     have hD : ∀ s' x q, Dn g t dn s km kj s' x q ↔ D0 g t (todo.take (i + 1)) s' x q := by
       have h_ := dn_last (g := g) (t := t) (dn := dn) (s := s) (k := km) (k' := kj) (by omega) (by omega)
       rw [take_succ' (0 : Int) (by rw [hmore, List.length_append]; omega)]
       rw [hmore, List.take_append_of_le_length (by omega), ← hdn0.1, List.getD_eq_getElem?_getD, List.getElem?_append_left hdn0.2.1, ← List.getD_eq_getElem?_getD, hdn0.2.2]
       exact h_
     have hml : todo.length = todo0.length + more.length := by rw [hmore, List.length_append]
     refine wc_exit ?_
     refine wc_region ?_
     refine wl_v rfl rfl rfl (v_move rfl) ?_
     refine wl_v rfl rfl rfl (v_addi rfl rfl (by omega)) ?_
     refine wl_v rfl rfl rfl (v_assign rfl) ?_
     refine wl_nil ?_
     exact ⟨(todo, met, xss, vt, i + 1), (sc rfl (sc rfl (sc rfl (sc rfl (sc rfl (sc rfl (sn _))))))), ⟨⟨hI.cong (by dsimp only; omega) hD, by dsimp only; omega⟩, H.pm (by repeat constructor)⟩, by dsimp only; omega⟩
  ·have c0p := of_decide_eq_false c0
   rw [List.take_of_length_le (by omega)] at hI
   refine wc_exit ?_
   refine wc_seq ?_
   refine wc_still mixed (by kernel_rfl) ?_
   have Hd := H.drew
   refine ws_v rfl rfl rfl (v_load one96 rfl (Hd.at (by repeat constructor) rfl)) ?_
   refine ws_v rfl rfl rfl (v_load one97 rfl (Hd.at (by repeat constructor) rfl)) ?_
   refine ws_v rfl rfl rfl (v_assign rfl) ?_
   refine ws_v rfl rfl rfl (v_assign rfl) ?_
   refine ws_nil ?_
   refine wc_ret ?_
   exact ⟨_, res2 rfl rfl rfl, _, _, xss, met, rfl, hI.fin hf (by omega), Hd.pm (by repeat constructor)⟩
end Go.Proofs.Ytkpehkadammppaa.EdgesW

/-! Shifts. -/
namespace Go.Proofs.YtkpehkadammppaaFx
open Go Go.RowKit
/-- Several ways meet. -/
theorem wc_cut {P : Program} {n : Nat} {Q : Post} {l : Fr} {w : World} {σ : Type} {x y : Code} (fr : σ → Fr) (inv : σ → World → Prop) (h : wc P n x (thenQ (fun l' w' => ∃ s, Sub (fr s) l' ∧ inv s w') Q) l w) (k : ∀ s w, inv s w → wc P n y Q (fr s) w) : wc P n (.seq x y) Q l w :=
  wc_mid _ h fun _ _ ⟨s, hs, hi⟩ => wc_sub hs (k s _ hi)
section
variable {P : Program} {n : Nat} {l : Fr} {w : World} {x y : Operand} {ty t t2 : TypeId} {pos : String} {af : Array Edge} {gd : Option (Nat × Bool)} {dst : Option Tmp} {i j : Int} {k yk : IntKind}
theorem v_shr (hx : ev l x = some (.int k i)) (hy : ev l y = some (.int yk j)) (h0 : 0 ≤ j) (h1 : j ≤ k.bits) : Vs P n l ⟨dst, .binOp .shr t x y t2, ty, pos, af, gd⟩ w (.int k (i / 2 ^ j.toNat)) := fun a ha => by
  simp [execOp, ha.eval hx, ha.eval hy, eqGuard_shr, binOp_shr, shift_shr k yk i j h0 h1]
theorem v_shl (hx : ev l x = some (.int k i)) (hy : ev l y = some (.int yk j)) (h0 : 0 ≤ j) (h1 : j ≤ k.bits) : Vs P n l ⟨dst, .binOp .shl t x y t2, ty, pos, af, gd⟩ w (.int k (k.wrap (i * 2 ^ j.toNat))) := fun a ha => by
  simp [execOp, ha.eval hx, ha.eval hy, eqGuard_shl, binOp_shl, shift_shl k yk i j h0 h1]
theorem wrap_u {i : Int} (h : 0 ≤ i ∧ i ≤ 9223372036854775807) : IntKind.u64.wrap i = i := by
  have e1 : (2 ^ IntKind.u64.bits : Int) = 18446744073709551616 := rfl
  have e3 : IntKind.u64.signed = false := rfl
  unfold IntKind.wrap
  simp only [e1, e3, Bool.false_and, Bool.false_eq_true, if_false]
  omega
theorem v_toU (hs : P.underlying t = some (.int .i64)) (hd : P.underlying t2 = some (.int .u64)) (hx : ev l x = some (.int .i64 i)) (h : 0 ≤ i ∧ i ≤ 9223372036854775807) : Vs P n l ⟨dst, .convert t t2 x, ty, pos, af, gd⟩ w (.int .u64 i) := by
  have h1 := v_conv (P := P) (n := n) (w := w) (ty := ty) (pos := pos) (af := af) (gd := gd) (dst := dst) hs hd hx
  rwa [wrap_u h] at h1
theorem v_toI (hs : P.underlying t = some (.int .u64)) (hd : P.underlying t2 = some (.int .i64)) (hx : ev l x = some (.int .u64 i)) (h : 0 ≤ i ∧ i ≤ 9223372036854775807) : Vs P n l ⟨dst, .convert t t2 x, ty, pos, af, gd⟩ w (.int .i64 i) := by
  have h1 := v_conv (P := P) (n := n) (w := w) (ty := ty) (pos := pos) (af := af) (gd := gd) (dst := dst) hs hd hx
  rwa [IntWalk.i64_in _ (by omega)] at h1
theorem v_half (hx : ev l x = some (.int .u64 i)) (hy : ev l y = some (.int yk 1)) : Vs P n l ⟨dst, .binOp .shr t x y t2, ty, pos, af, gd⟩ w (.int .u64 (i / 2)) := v_shr hx hy (by decide) (by decide)
end
end Go.Proofs.YtkpehkadammppaaFx
