/- Frames as lists of slots, and the rules by which code is walked over them. -/
import Derived.Tactics
import Derived.StillTail
import Derived.Laws.Entries
import Derived.Laws.Strings
import Derived.Laws.Small
import Derived.Laws.Unary
import Derived.Laws.Slices
import Derived.Laws.Wrap64
import Derived.KernelRfl
set_option linter.unusedVariables false
namespace Go.Proofs.YtkpehkadammppaaFx
open Go

abbrev Fr := List (Nat × Value)
/-- The value of a slot, if the list tells it. -/
def lk : Fr → Nat → Option Value
  | [], _ => none
  | (k, v) :: r, t => bif Nat.beq k t then some v else lk r t
theorem lk_same (k : Nat) (v : Value) (r : Fr) : lk ((k, v) :: r) k = some v := by simp [lk, Nat.beq_refl]
theorem lk_ne {k t : Nat} (v : Value) (r : Fr) (h : k ≠ t) : lk ((k, v) :: r) t = lk r t := by
  have : Nat.beq k t = false := by
    cases hb : Nat.beq k t
    · rfl
    · exact absurd (Nat.eq_of_beq_eq_true hb) h
  simp [lk, this]

/-- The frame holds what the list tells. -/
structure Ag (n : Nat) (l : Fr) (a : Act) : Prop where
  nodef : a.defers = []
  size : a.tmps.size = n
  at_ : ∀ t v, lk l t = some v → a.tmps[t]? = some v

def ev (l : Fr) : Operand → Option Value
  | .tmp t => lk l t
  | .const v => some v
  | .global g => some (.pointer (some ⟨g, 0, none⟩))
  | .func f => some (.func (.func f) #[] #[])
theorem Ag.eval {n : Nat} {l : Fr} {a : Act} (h : Ag n l a) {x : Operand} {v : Value} (hx : ev l x = some v) : a.eval x = v := by
  cases x with
  | tmp t =>
    have := h.at_ t v hx
    simp [Act.eval, Array.getD_eq_getD_getElem?, this]
  | const u => exact Option.some.inj hx
  | global g => exact Option.some.inj hx
  | func f => exact Option.some.inj hx
theorem Ag.put {n d : Nat} {l : Fr} {a : Act} (h : Ag n l a) (hd : Nat.ble (d + 1) n = true) (v : Value) : Ag n ((d, v) :: l) (a.put (some d) v) := by
  have hd' : d < n := Nat.le_of_ble_eq_true hd
  refine ⟨h.nodef, by simp [Act.put, h.size], fun t u hu => ?_⟩
  simp only [Act.put]
  by_cases ht : d = t
  · subst ht
    rw [lk_same] at hu
    cases hu
    rw [Array.getElem?_setIfInBounds_self_of_lt (by rw [h.size]; exact hd')]
  · rw [lk_ne _ _ ht] at hu
    rw [Array.getElem?_setIfInBounds_ne ht]
    exact h.at_ t u hu
theorem Ag.put_none {n : Nat} {l : Fr} {a : Act} (h : Ag n l a) (v : Value) : Ag n l (a.put none v) := h
/-- What the list l' tells, l tells. -/
def Sub (l' l : Fr) : Prop := ∀ t v, lk l' t = some v → lk l t = some v
theorem Sub.refl (l : Fr) : Sub l l := fun _ _ h => h
theorem sn (l : Fr) : Sub [] l := fun _ _ h => by cases h
theorem sc {l r : Fr} {t : Nat} {v : Value} (h : lk l t = some v) (hr : Sub r l) : Sub ((t, v) :: r) l := fun u x hu => by
  by_cases ht : t = u
  · subst ht
    rw [lk_same] at hu
    cases hu
    exact h
  · rw [lk_ne _ _ ht] at hu
    exact hr u x hu
theorem Ag.sub {n : Nat} {l l' : Fr} {a : Act} (h : Ag n l a) (hs : Sub l' l) : Ag n l' a := ⟨h.nodef, h.size, fun t v hv => h.at_ t v (hs t v hv)⟩

abbrev Post := Exit → Fr → World → Prop
def up (n : Nat) (Q : Post) (e : Exit) (a : Act) (w : World) : Prop := ∃ l, Ag n l a ∧ Q e l w
def wc (P : Program) (n : Nat) (c : Code) (Q : Post) (l : Fr) (w : World) : Prop := ∀ a, Ag n l a → c.wp P (up n Q) a w
def wl (P : Program) (n : Nat) (ops : Array Oper) (rest : List Oper) (Q : Post) (l : Fr) (w : World) : Prop := ∀ a, Ag n l a → wpList P ops (up n Q) rest a w
def thenQ (K : Fr → World → Prop) (Q : Post) : Post
  | .normal, l, w => K l w
  | e, l, w => Q e l w
def blockQ (id : Nat) (Q : Post) : Post
  | .exit id', l, w => bif Nat.beq id' id then Q .normal l w else Q (.exit id') l w
  | e, l, w => Q e l w

section
variable {P : Program} {n : Nat} {Q : Post} {l : Fr} {w : World}
theorem wc_sub {c : Code} {l' : Fr} (hs : Sub l' l) (h : wc P n c Q l' w) : wc P n c Q l w := fun a ha => h a (ha.sub hs)
theorem wc_mono {c : Code} {Q' : Post} (hq : ∀ e l w, Q e l w → Q' e l w) (h : wc P n c Q l w) : wc P n c Q' l w := fun a ha => Code.wp_mono (fun _ _ _ ⟨l', hl, q⟩ => ⟨l', hl, hq _ _ _ q⟩) (h a ha)
theorem wc_skip (h : Q .normal l w) : wc P n .skip Q l w := fun _ ha => wp_skip ⟨l, ha, h⟩
theorem wc_ret (h : Q .ret l w) : wc P n .ret Q l w := fun _ ha => wp_ret ⟨l, ha, h⟩
theorem wc_exit {id : Nat} (h : Q (.exit id) l w) : wc P n (.exit id) Q l w := fun _ ha => wp_exit ⟨l, ha, h⟩
theorem wc_seq {x y : Code} (h : wc P n x (thenQ (fun l w => wc P n y Q l w) Q) l w) : wc P n (.seq x y) Q l w := fun a ha =>
  wp_seq (Code.wp_mono (fun e a' w' ⟨l', hl, q⟩ => by cases e <;> first | exact q a' hl | exact ⟨l', hl, q⟩) (h a ha))
/-- What follows, by a middle assertion: for where several ways meet. -/
theorem wc_mid {x y : Code} (M : Fr → World → Prop) (h : wc P n x (thenQ M Q) l w) (k : ∀ l w, M l w → wc P n y Q l w) : wc P n (.seq x y) Q l w :=
  wc_seq (wc_mono (fun e l w q => by cases e <;> first | exact k _ _ q | exact q) h)
theorem wc_block {id : Nat} {c : Code} (h : wc P n c (blockQ id Q) l w) : wc P n (.block id c) Q l w := fun a ha =>
  wp_block (Code.wp_mono (fun e a' w' ⟨l', hl, q⟩ => by
    cases e with
    | exit id' =>
      simp only [Exit.inBlock]
      by_cases hid : id' = id
      · subst hid
        rw [if_pos rfl]
        exact ⟨l', hl, by simpa [blockQ, Nat.beq_refl] using q⟩
      · rw [if_neg hid]
        have hb : Nat.beq id' id = false := by
          cases hb : Nat.beq id' id
          · rfl
          · exact absurd (Nat.eq_of_beq_eq_true hb) hid
        exact ⟨l', hl, by simpa [blockQ, hb] using q⟩
    | _ => exact ⟨l', hl, q⟩) (h a ha))
theorem wc_cond {c : Operand} {x y : Code} {b : Bool} (hc : ev l c = some (.bool b)) (ht : b = true → wc P n x Q l w) (hf : b = false → wc P n y Q l w) : wc P n (.cond c x y) Q l w := fun a ha =>
  wp_cond_split (ha.eval hc) (fun h => ht h a ha) (fun h => hf h a ha)
theorem wc_cond_t {c : Operand} {x y : Code} (hc : ev l c = some (.bool true)) (h : wc P n x Q l w) : wc P n (.cond c x y) Q l w := wc_cond hc (fun _ => h) (fun h => by cases h)
theorem wc_cond_f {c : Operand} {x y : Code} (hc : ev l c = some (.bool false)) (h : wc P n y Q l w) : wc P n (.cond c x y) Q l w := wc_cond hc (fun h => by cases h) (fun _ => h)
theorem wc_cond_y {c : Operand} {x y : Code} {b : Bool} (hc : ev l c = some (.bool b)) (hb : b = true) (h : wc P n x Q l w) : wc P n (.cond c x y) Q l w := wc_cond hc (fun _ => h) (fun h => by rw [hb] at h; cases h)
theorem wc_cond_n {c : Operand} {x y : Code} {b : Bool} (hc : ev l c = some (.bool b)) (hb : b = false) (h : wc P n y Q l w) : wc P n (.cond c x y) Q l w := wc_cond hc (fun h => by rw [hb] at h; cases h) (fun _ => h)
/-- A loop: its head's frame and what holds there, by a state s. -/
theorem wc_loop {σ : Type} {c : Code} (fr : σ → Fr) (inv : σ → World → Prop) (μ : σ → Nat) (s0 : σ) (h0 : Sub (fr s0) l) (hi : inv s0 w)
    (round : ∀ s w, inv s w → wc P n c (thenQ (fun l' w' => ∃ s', Sub (fr s') l' ∧ inv s' w' ∧ μ s' < μ s) Q) (fr s) w) : wc P n (.loop c) Q l w := by
  have key : ∀ (m : Nat) (s : σ) (w : World) (a : Act), μ s = m → inv s w → Ag n (fr s) a → ∀ (b : Frame) (k : List Item) (cs : List Frame),
      ∃ e a' w', up n Q e a' w' ∧ Arrives P (lone (b.at a (.code c :: .inLoop c :: k)) cs w) b k cs e a' w' := by
    intro m
    induction m using Nat.strongRecOn with
    | _ m ih =>
      intro s w a hm hs ha b k cs
      obtain ⟨e, a1, w1, ⟨l1, hl1, q⟩, harr⟩ := round s w hs a ha b (.inLoop c :: k) cs
      cases e with
      | normal =>
        obtain ⟨s', hsub, hs', hlt⟩ := q
        obtain ⟨e2, a2, w2, q2, harr2⟩ := ih (μ s') (hm ▸ hlt) s' w1 a1 rfl hs' (hl1.sub hsub) b k cs
        exact ⟨e2, a2, w2, q2, .of_steps (Steps.trans harr (.one step_inLoop)) harr2⟩
      | exit id => exact ⟨_, a1, w1, ⟨l1, hl1, q⟩, .pass (x := .inLoop c) rfl (fun _ _ => .inl (by simp)) harr⟩
      | goto l => exact ⟨_, a1, w1, ⟨l1, hl1, q⟩, .pass (x := .inLoop c) rfl (fun _ _ => .inl (by simp)) harr⟩
      | ret => exact ⟨_, a1, w1, ⟨l1, hl1, q⟩, .pass (x := .inLoop c) rfl (fun _ _ => .inl (by simp)) harr⟩
      | panic ch => exact ⟨_, a1, w1, ⟨l1, hl1, q⟩, .pass (x := .inLoop c) rfl (fun _ _ => .inl (by simp)) harr⟩
      | outgrown => exact ⟨_, a1, w1, ⟨l1, hl1, q⟩, .pass (x := .inLoop c) rfl (fun _ _ => .inl (by simp)) harr⟩
  intro a ha b k cs
  obtain ⟨e, a', w', hq, harr⟩ := key _ s0 w a rfl hi (ha.sub h0) b k cs
  exact ⟨e, a', w', hq, .of_steps (.one step_loop) harr⟩

/-! ### regions and operations -/
theorem wc_region {id : Nat} {ops : List Oper} (h : wl P n ops.toArray ops Q l w) : wc P n (.region id ops.toArray false) Q l w := fun a ha => wp_region_lit (h a ha)
theorem wl_nil {ops : Array Oper} (h : Q .normal l w) : wl P n ops [] Q l w := fun _ ha => wpList_nil ⟨l, ha, h⟩
/-- The operation yields v, whatever the frame's other slots are; the world is then w'. -/
def Vw (P : Program) (n : Nat) (l : Fr) (o : Oper) (w : World) (v : Value) (w' : World) : Prop := ∀ a, Ag n l a → (execOp a.eval o).run P w = .ok (.value v) w'
def Sk (P : Program) (n : Nat) (l : Fr) (o : Oper) (w : World) (w' : World) : Prop := ∀ a, Ag n l a → (execOp a.eval o).run P w = .ok .skip w'
/-- The same, the world being the old one. -/
abbrev Vs (P : Program) (n : Nat) (l : Fr) (o : Oper) (w : World) (v : Value) : Prop := Vw P n l o w v w
def putD (d : Option Nat) (v : Value) (l : Fr) : Fr := match d with | some d => (d, v) :: l | none => l
variable {ops : Array Oper} {rest : List Oper} {o : Oper} {d : Nat} {v : Value} {w' : World}
theorem wl_v (hd : o.dst = some d) (hg : o.guard = none) (hn : Nat.ble (d + 1) n = true) (hv : Vw P n l o w v w') (h : wl P n ops rest Q ((d, v) :: l) w') : wl P n ops (o :: rest) Q l w := fun a ha => by
  refine wpList_plain hg fun K hK => ?_
  unfold Oper.wp
  rw [hv a ha, Oper.upon_value]
  exact hK _ _ (h _ (by rw [hd]; exact ha.put hn v))
theorem wl_v0 (hd : o.dst = none) (hg : o.guard = none) (hv : Vw P n l o w v w') (h : wl P n ops rest Q l w') : wl P n ops (o :: rest) Q l w := fun a ha => by
  refine wpList_plain hg fun K hK => ?_
  unfold Oper.wp
  rw [hv a ha, Oper.upon_value]
  exact hK _ _ (h _ (by rw [hd]; exact ha))
theorem wl_s (hd : o.dst = none) (hg : o.guard = none) (hv : Sk P n l o w w') (h : wl P n ops rest Q l w') : wl P n ops (o :: rest) Q l w := fun a ha => by
  refine wpList_plain hg fun K hK => ?_
  unfold Oper.wp
  rw [hv a ha, Oper.upon_skip]
  exact hK _ _ (h _ (by rw [hd]; exact ha))
/-- A guarded operation: wanted, or not. -/
theorem yielded_at {a : Act} (ha : Ag n l a) {j dj : Nat} {b : Bool} (hj : (ops[j]?).bind (·.dst) = some dj) (hb : lk l dj = some (.bool b)) : yielded ops a.tmps j = some b := by
  simp [yielded, hj, ha.at_ _ _ hb]
theorem wl_on {dst : Option Tmp} {op : Op} {ty : TypeId} {pos : String} {af : Array Edge} {j dj : Nat} {b : Bool} (hj : (ops[j]?).bind (·.dst) = some dj) (hb : lk l dj = some (.bool b))
    (h : wl P n ops ({ dst := dst, op := op, type := ty, pos := pos, after := af, guard := none } :: rest) Q l w) : wl P n ops ({ dst := dst, op := op, type := ty, pos := pos, after := af, guard := some (j, b) } :: rest) Q l w := fun a ha => by
  have h1 := h a ha
  unfold wpList at h1 ⊢
  rw [if_pos (by simp [Region.wanted, yielded_at ha hj hb])]
  rw [if_pos (by simp [Region.wanted])] at h1
  exact h1
theorem wl_off {dst : Nat} {op : Op} {ty : TypeId} {pos : String} {af : Array Edge} {j dj : Nat} {b b' : Bool} (hj : (ops[j]?).bind (·.dst) = some dj) (hb : lk l dj = some (.bool b')) (hne : b' = !b) (hn : Nat.ble (dst + 1) n = true)
    (h : wl P n ops rest Q ((dst, undef) :: l) w) : wl P n ops ({ dst := some dst, op := op, type := ty, pos := pos, after := af, guard := some (j, b) } :: rest) Q l w := fun a ha => by
  unfold wpList
  rw [if_neg (by simp [Region.wanted, yielded_at ha hj hb, hne])]
  exact h _ (ha.put hn _)
theorem wl_off0 {op : Op} {ty : TypeId} {pos : String} {af : Array Edge} {j dj : Nat} {b b' : Bool} (hj : (ops[j]?).bind (·.dst) = some dj) (hb : lk l dj = some (.bool b')) (hne : b' = !b)
    (h : wl P n ops rest Q l w) : wl P n ops ({ dst := none, op := op, type := ty, pos := pos, after := af, guard := some (j, b) } :: rest) Q l w := fun a ha => by
  unfold wpList
  rw [if_neg (by simp [Region.wanted, yielded_at ha hj hb, hne])]
  exact h _ ha

theorem yielded_un {a : Act} (ha : Ag n l a) {j dj : Nat} (hj : (ops[j]?).bind (·.dst) = some dj) (hb : lk l dj = some undef) : yielded ops a.tmps j = none := by
  simp [yielded, hj, ha.at_ _ _ hb, undef]
theorem wl_offu {dst : Nat} {op : Op} {ty : TypeId} {pos : String} {af : Array Edge} {j dj : Nat} {b : Bool} (hj : (ops[j]?).bind (·.dst) = some dj) (hb : lk l dj = some undef) (hn : Nat.ble (dst + 1) n = true)
    (h : wl P n ops rest Q ((dst, undef) :: l) w) : wl P n ops ({ dst := some dst, op := op, type := ty, pos := pos, after := af, guard := some (j, b) } :: rest) Q l w := fun a ha => by
  unfold wpList
  rw [if_neg (by simp [Region.wanted, yielded_un ha hj hb])]
  exact h _ (ha.put hn _)
/-! ### values without memory -/
variable {x y : Operand} {ty t t2 : TypeId} {pos : String} {af : Array Edge} {gd : Option (Nat × Bool)} {dst : Option Tmp}
theorem v_move (hx : ev l x = some v) : Vs P n l ⟨dst, .move x, ty, pos, af, gd⟩ w v := fun a ha => by simp [execOp, ha.eval hx]
theorem v_assign (hx : ev l x = some v) : Vs P n l ⟨dst, .assign x, ty, pos, af, gd⟩ w v := fun a ha => by simp [execOp, ha.eval hx]
theorem v_pick {c : Operand} {b : Bool} (hc : ev l c = some (.bool b)) (hx : b = true → ev l x = some v) (hy : b = false → ev l y = some v) : Vs P n l ⟨dst, .pick c x y, ty, pos, af, gd⟩ w v := fun a ha => by
  cases b
  · simp [execOp, ha.eval hc, asBool, ha.eval (hy rfl)]
  · simp [execOp, ha.eval hc, asBool, ha.eval (hx rfl)]
variable {k : IntKind} {i j : Int}
theorem v_add (hx : ev l x = some (.int k i)) (hy : ev l y = some (.int k j)) : Vs P n l ⟨dst, .binOp .add t x y t2, ty, pos, af, gd⟩ w (.int k (k.wrap (i + j))) := fun a ha => by simp [execOp, ha.eval hx, ha.eval hy, eqGuard_at_int, binOp_add, Op.intArith]
theorem v_sub (hx : ev l x = some (.int k i)) (hy : ev l y = some (.int k j)) : Vs P n l ⟨dst, .binOp .sub t x y t2, ty, pos, af, gd⟩ w (.int k (k.wrap (i - j))) := fun a ha => by simp [execOp, ha.eval hx, ha.eval hy, eqGuard_at_int, binOp_sub, Op.intArith]
theorem v_mul (hx : ev l x = some (.int k i)) (hy : ev l y = some (.int k j)) : Vs P n l ⟨dst, .binOp .mul t x y t2, ty, pos, af, gd⟩ w (.int k (k.wrap (i * j))) := fun a ha => by simp [execOp, ha.eval hx, ha.eval hy, eqGuard_at_int, binOp_mul, Op.intArith]
theorem v_lss (hx : ev l x = some (.int k i)) (hy : ev l y = some (.int k j)) : Vs P n l ⟨dst, .binOp .lss t x y t2, ty, pos, af, gd⟩ w (.bool (decide (i < j))) := fun a ha => by simp [execOp, ha.eval hx, ha.eval hy, eqGuard_at_int, binOp_lss]
theorem v_leq (hx : ev l x = some (.int k i)) (hy : ev l y = some (.int k j)) : Vs P n l ⟨dst, .binOp .leq t x y t2, ty, pos, af, gd⟩ w (.bool (decide (i ≤ j))) := fun a ha => by simp [execOp, ha.eval hx, ha.eval hy, eqGuard_at_int, binOp_leq]
theorem v_gtr (hx : ev l x = some (.int k i)) (hy : ev l y = some (.int k j)) : Vs P n l ⟨dst, .binOp .gtr t x y t2, ty, pos, af, gd⟩ w (.bool (decide (i > j))) := fun a ha => by simp [execOp, ha.eval hx, ha.eval hy, eqGuard_at_int, binOp_gtr]
theorem v_geq (hx : ev l x = some (.int k i)) (hy : ev l y = some (.int k j)) : Vs P n l ⟨dst, .binOp .geq t x y t2, ty, pos, af, gd⟩ w (.bool (decide (i ≥ j))) := fun a ha => by simp [execOp, ha.eval hx, ha.eval hy, eqGuard_at_int, binOp_geq]
theorem v_eql (hx : ev l x = some (.int k i)) (hy : ev l y = some (.int k j)) : Vs P n l ⟨dst, .binOp .eql t x y t2, ty, pos, af, gd⟩ w (.bool (decide (i = j))) := fun a ha => by
  simp only [execOp, ha.eval hx, ha.eval hy, eqGuard_at_int, binOp_eql, Sem.run_bind, Sem.run_pure, Result.andThen_ok]
  rw [show (i == j) = decide (i = j) from rfl]
theorem v_neq (hx : ev l x = some (.int k i)) (hy : ev l y = some (.int k j)) : Vs P n l ⟨dst, .binOp .neq t x y t2, ty, pos, af, gd⟩ w (.bool (!decide (i = j))) := fun a ha => by
  simp only [execOp, ha.eval hx, ha.eval hy, eqGuard_at_int, binOp_neq, Sem.run_bind, Sem.run_pure, Result.andThen_ok]
  rw [show (i != j) = !decide (i = j) from rfl]
theorem v_eqlb {p q : Bool} (ht : P.underlying t = some .bool) (hx : ev l x = some (.bool p)) (hy : ev l y = some (.bool q)) : Vs P n l ⟨dst, .binOp .eql t x y t2, ty, pos, af, gd⟩ w (.bool (p == q)) := fun a ha => by
  simp [execOp, ha.eval hx, ha.eval hy, eqGuard_at_bool, run_eql_bool w t p q ht]
theorem v_neqb {p q : Bool} (ht : P.underlying t = some .bool) (hx : ev l x = some (.bool p)) (hy : ev l y = some (.bool q)) : Vs P n l ⟨dst, .binOp .neq t x y t2, ty, pos, af, gd⟩ w (.bool (!(p == q))) := fun a ha => by
  simp [execOp, ha.eval hx, ha.eval hy, eqGuard_at_bool, run_neq_bool w t p q ht]
theorem ba_beq (p q : ByteArray) : (p.toList == q.toList) = decide (p = q) := by
  rw [Bool.eq_iff_iff]
  simp only [beq_iff_eq, decide_eq_true_eq]
  constructor
  · intro h
    rw [ByteArray.toList_eq, ByteArray.toList_eq] at h
    exact ByteArray.ext (Array.toList_inj.1 h)
  · rintro rfl
    rfl
theorem v_eqls {p q : ByteArray} (hx : ev l x = some (.string p)) (hy : ev l y = some (.string q)) : Vs P n l ⟨dst, .binOp .eql t x y t2, ty, pos, af, gd⟩ w (.bool (decide (p = q))) := fun a ha => by
  simp [execOp, ha.eval hx, ha.eval hy, eqGuard_at_string, binOp_string_eql, ba_beq]
theorem v_neqs {p q : ByteArray} (hx : ev l x = some (.string p)) (hy : ev l y = some (.string q)) : Vs P n l ⟨dst, .binOp .neq t x y t2, ty, pos, af, gd⟩ w (.bool (!decide (p = q))) := fun a ha => by
  simp [execOp, ha.eval hx, ha.eval hy, eqGuard_at_string, binOp_string_neq, ba_beq]
theorem v_not {p : Bool} (hx : ev l x = some (.bool p)) : Vs P n l ⟨dst, .unOp .not t x, ty, pos, af, gd⟩ w (.bool (!p)) := fun a ha => by
  simp [execOp, ha.eval hx, unary_not]
theorem v_neg (hx : ev l x = some (.int k i)) : Vs P n l ⟨dst, .unOp .neg t x, ty, pos, af, gd⟩ w (.int k (k.wrap (0 - i))) := fun a ha => by
  simp [execOp, ha.eval hx, unary_neg, Op.intArith]
theorem v_conv {k2 : IntKind} {ds : TypeDesc} (hs : P.underlying t = some ds) (hd : P.underlying t2 = some (.int k2)) (hx : ev l x = some (.int k i)) : Vs P n l ⟨dst, .convert t t2 x, ty, pos, af, gd⟩ w (.int k2 (k2.wrap i)) := fun a ha => by
  simp [execOp, ha.eval hx, convert, run_underlying hs, run_underlying hd, Conv.intToInt]
theorem v_extract {vs : Array Value} {m : Nat} (hx : ev l x = some (.tuple vs)) (hm : vs[m]? = some v) : Vs P n l ⟨dst, .extract x m, ty, pos, af, gd⟩ w v := fun a ha => by
  simp [execOp, ha.eval hx, Instr.extract, hm]
theorem v_len {A : Option Addr} {m c e : Nat} (ht : P.underlying t = some (.slice e)) (hx : ev l x = some (.slice A m c)) : Vs P n l ⟨dst, .call { callee := .builtin .len, args := #[x], argTypes := #[t] }, ty, pos, af, gd⟩ w (.int .i64 m) := fun a ha => by
  simp [execOp, ha.eval hx, resolve, invoke, builtin, Builtin.len_, run_underlying ht, goInt]
theorem v_lens {s : ByteArray} (ht : P.underlying t = some .string) (hx : ev l x = some (.string s)) : Vs P n l ⟨dst, .call { callee := .builtin .len, args := #[x], argTypes := #[t] }, ty, pos, af, gd⟩ w (.int .i64 s.size) := fun a ha => by
  simp [execOp, ha.eval hx, resolve, invoke, builtin, Builtin.len_, run_underlying ht, goInt]
theorem v_nil {p : Addr} (hx : ev l x = some (.pointer (some p))) : Vs P n l ⟨dst, .nilCheck x, ty, pos, af, gd⟩ w (.pointer (some p)) := fun a ha => by
  simp [execOp, ha.eval hx]
theorem v_index {A : Addr} {m c e sz : Nat} (ht : P.underlying t = some (.slice e)) (hsz : ∀ W, (sizeOf e).run P W = .ok sz W) (hx : ev l x = some (.slice (some A) m c)) (hy : ev l y = some (.int k i)) (h0 : 0 ≤ i) (h1 : i < m) :
    Vs P n l ⟨dst, .indexAddr t x y, ty, pos, af, gd⟩ w (.pointer (some (A.add (i.toNat * sz)))) := fun a ha => by
  simp [execOp, ha.eval hx, ha.eval hy, Instr.indexAt, asIntOf, run_underlying ht, h0, h1, hsz]
theorem v_indexs {s : ByteArray} (ht : P.underlying t = some .string) (hx : ev l x = some (.string s)) (hy : ev l y = some (.int k i)) (h0 : 0 ≤ i) (h1 : i.toNat < s.size) :
    Vs P n l ⟨dst, .index t x y, ty, pos, af, gd⟩ w (.int .u8 (s[i.toNat].toNat)) := fun a ha => by
  simp [execOp, ha.eval hx, ha.eval hy, Instr.index, asIntOf, run_underlying ht, h0, h1]
theorem v_field {s : TypeId} {fs : Array Field} {f : Nat} {fd : Field} {sz : Nat} {b off : Nat} (hs : P.underlying s = some (.struct fs)) (hf : fs[f]? = some fd) (hsz : ∀ W, (sizeOf fd.type).run P W = .ok sz W) (hp : 0 < sz) (hx : ev l x = some (.pointer (some ⟨b, off, none⟩))) :
    Vs P n l ⟨dst, .fieldAddr s x f, ty, pos, af, gd⟩ w (.pointer (some ⟨b, off + fd.offset, none⟩)) := fun a ha => by
  have : sz ≠ 0 := by omega
  simp [execOp, ha.eval hx, Instr.fieldAt, run_underlying hs, hf, Instr.sureAddr, fieldPlace, hsz, this, Addr.add_lit]
theorem v_build {parts : Array (Nat × Operand)} (h : ∀ a, Ag n l a → (Instr.build t (parts.map fun (i, x) => (i, a.eval x))).run P w = .ok v w) : Vs P n l ⟨dst, .build t parts, ty, pos, af, gd⟩ w v := fun a ha => by
  simp [execOp, h a ha]
theorem v_func {fn : Fn} {first captured : Array Operand} {vf vc : Array Value} (hf : ∀ a, Ag n l a → first.map a.eval = vf) (hc : ∀ a, Ag n l a → captured.map a.eval = vc) : Vs P n l ⟨dst, .makeFunc fn first captured, ty, pos, af, gd⟩ w (.func fn vf vc) := fun a ha => by
  simp [execOp, Instr.makeFunc, hf a ha, hc a ha]

/-! ### cuts of strings -/
theorem v_cut {s : ByteArray} {lo hi : Int} {xl xh : Operand} {kl kh : IntKind} (ht : P.underlying t = some .string) (hx : ev l x = some (.string s)) (hl : ev l xl = some (.int kl lo)) (hh : ev l xh = some (.int kh hi)) (h0 : 0 ≤ lo) (h1 : lo ≤ hi) (h2 : hi ≤ s.size) :
    Vs P n l ⟨dst, .slice t x (some xl) (some xh) none, ty, pos, af, gd⟩ w (.string (s.extract lo.toNat hi.toNat)) := fun a ha => by
  have eh : (hi.toNat : Int) = hi := Int.toNat_of_nonneg (by omega)
  simp [execOp, ha.eval hx, ha.eval hl, ha.eval hh, run_sliceAt_string w t _ _ _ _ ht, Instr.slice, run_underlying ht, Instr.sliceBounds, run_sliceBound, h0, h1, h2, eh, (by omega : 0 ≤ hi)]
theorem v_cut_l {s : ByteArray} {lo : Int} {xl : Operand} {kl : IntKind} (ht : P.underlying t = some .string) (hx : ev l x = some (.string s)) (hl : ev l xl = some (.int kl lo)) (h0 : 0 ≤ lo) (h1 : lo ≤ s.size) :
    Vs P n l ⟨dst, .slice t x (some xl) none none, ty, pos, af, gd⟩ w (.string (s.extract lo.toNat s.size)) := fun a ha => by
  simp [execOp, ha.eval hx, ha.eval hl, run_sliceAt_string w t _ _ _ _ ht, run_slice_string_l w t s ht kl lo h0 h1]
theorem v_cut_h {s : ByteArray} {hi : Int} {xh : Operand} {kh : IntKind} (ht : P.underlying t = some .string) (hx : ev l x = some (.string s)) (hh : ev l xh = some (.int kh hi)) (h0 : 0 ≤ hi) (h2 : hi ≤ s.size) :
    Vs P n l ⟨dst, .slice t x none (some xh) none, ty, pos, af, gd⟩ w (.string (s.extract 0 hi.toNat)) := fun a ha => by
  simp [execOp, ha.eval hx, ha.eval hh, run_sliceAt_string w t _ _ _ _ ht, run_slice_string_h w t s ht kh hi h0 h2]

/-! ### calls -/
def Enters (P : Program) (f : FuncId) : Prop := ∀ (args : Array Value) (w : World), (callFunc f args).run P w = .ok (.enter f args) w
theorem enters {f : FuncId} {fn : Func} (hf : P.funcs[f]? = some fn) (hn : (fn.name == "runtime.NumGoroutine") = false) (hb : fn.body.isNone = false) : Enters P f := fun args w => by
  have h1 : (program.run P w) = .ok P w := rfl
  simp only [callFunc, Sem.run_bind, h1, Result.andThen_ok, hf, hn, hb, Bool.false_eq_true, if_false, Sem.run_pure]
/-- The values of operands. -/
def evs (l : Fr) : List Operand → Option (List Value)
  | [] => some []
  | x :: r => match ev l x, evs l r with
    | some v, some vs => some (v :: vs)
    | _, _ => none
theorem Ag.evals {a : Act} (ha : Ag n l a) : ∀ {xs : List Operand} {vs : List Value}, evs l xs = some vs → xs.map a.eval = vs
  | [], vs, h => by simpa [evs] using h
  | x :: r, vs, h => by
    unfold evs at h
    split at h
    · rename_i v us hv hus
      cases h
      rw [List.map_cons, ha.eval hv, ha.evals hus]
    · cases h
theorem wl_call {f : FuncId} {xs : List Operand} {vs : List Value} {ats : Array TypeId} {R : Value → World → Prop} (he : Enters P f) (hx : evs l xs = some vs) (hn : Nat.ble (d + 1) n = true)
    (hc : Calls P f vs.toArray w fun e w' => ∃ v, e = .returned v ∧ R v w')
    (h : ∀ v w', R v w' → wl P n ops rest Q ((d, v) :: l) w') : wl P n ops (⟨some d, .call { callee := .value (.func f), args := xs.toArray, argTypes := ats }, ty, pos, af, none⟩ :: rest) Q l w := fun a ha => by
  refine wpList_plain rfl fun K hK => ?_
  unfold Oper.wp
  have hargs : xs.toArray.map a.eval = vs.toArray := by rw [List.map_toArray, ha.evals hx]
  have hrun : (execOp a.eval ⟨some d, .call { callee := .value (.func f), args := xs.toArray, argTypes := ats }, ty, pos, af, none⟩).run P w = .ok (.enter f vs.toArray) w := by
    simp only [execOp, resolve, Act.eval, Deferred.ofValue, Sem.run_bind, Sem.run_pure, Result.andThen_ok, invoke, hargs, Array.empty_append, Array.append_empty]
    exact he _ _
  rw [hrun, Oper.upon_enter]
  refine hc.mono ?_
  rintro e w' ⟨v, rfl, hr⟩
  exact hK _ _ (h v w' hr _ (ha.put hn v))
theorem wl_call0 {f : FuncId} {xs : List Operand} {vs : List Value} {ats : Array TypeId} {R : Value → World → Prop} (he : Enters P f) (hx : evs l xs = some vs)
    (hc : Calls P f vs.toArray w fun e w' => ∃ v, e = .returned v ∧ R v w')
    (h : ∀ v w', R v w' → wl P n ops rest Q l w') : wl P n ops (⟨none, .call { callee := .value (.func f), args := xs.toArray, argTypes := ats }, ty, pos, af, none⟩ :: rest) Q l w := fun a ha => by
  refine wpList_plain rfl fun K hK => ?_
  unfold Oper.wp
  have hargs : xs.toArray.map a.eval = vs.toArray := by rw [List.map_toArray, ha.evals hx]
  have hrun : (execOp a.eval ⟨none, .call { callee := .value (.func f), args := xs.toArray, argTypes := ats }, ty, pos, af, none⟩).run P w = .ok (.enter f vs.toArray) w := by
    simp only [execOp, resolve, Act.eval, Deferred.ofValue, Sem.run_bind, Sem.run_pure, Result.andThen_ok, invoke, hargs, Array.empty_append, Array.append_empty]
    exact he _ _
  rw [hrun, Oper.upon_enter]
  refine hc.mono ?_
  rintro e w' ⟨v, rfl, hr⟩
  exact hK _ _ (h v w' hr _ ha)
/-- A call of a function value. -/
theorem wl_callv {f : FuncId} {fo : Operand} {first captured : List Value} {xs : List Operand} {vs : List Value} {ats : Array TypeId} {R : Value → World → Prop} (he : Enters P f) (hf : ev l fo = some (.func (.func f) first.toArray captured.toArray)) (hx : evs l xs = some vs) (hn : Nat.ble (d + 1) n = true)
    (hc : Calls P f (first ++ vs ++ captured).toArray w fun e w' => ∃ v, e = .returned v ∧ R v w')
    (h : ∀ v w', R v w' → wl P n ops rest Q ((d, v) :: l) w') : wl P n ops (⟨some d, .call { callee := .value fo, args := xs.toArray, argTypes := ats }, ty, pos, af, none⟩ :: rest) Q l w := fun a ha => by
  refine wpList_plain rfl fun K hK => ?_
  unfold Oper.wp
  have hargs : xs.toArray.map a.eval = vs.toArray := by rw [List.map_toArray, ha.evals hx]
  have hrun : (execOp a.eval ⟨some d, .call { callee := .value fo, args := xs.toArray, argTypes := ats }, ty, pos, af, none⟩).run P w = .ok (.enter f (first ++ vs ++ captured).toArray) w := by
    simp only [execOp, resolve, ha.eval hf, Deferred.ofValue, Sem.run_bind, Sem.run_pure, Result.andThen_ok, invoke, hargs, List.append_toArray]
    exact he _ _
  rw [hrun, Oper.upon_enter]
  refine hc.mono ?_
  rintro e w' ⟨v, rfl, hr⟩
  exact hK _ _ (h v w' hr _ (ha.put hn v))

/-! ### a function's walk -/
/-- What the function's results are, in the frame and the world. -/
def Res (P : Program) (n : Nat) (l : Fr) (w : World) (fn : Func) (v : Value) : Prop := ∀ a, Ag n l a → (results fn a.tmps).run P w = .ok v w
def bodyQ (P : Program) (fn : Func) (R : Value → World → Prop) (n : Nat) : Post
  | .normal, l, w | .ret, l, w => ∃ v, Res P n l w fn v ∧ R v w
  | _, _, _ => False
def argFr : Nat → List Value → Fr
  | _, [] => []
  | i, v :: r => (i, v) :: argFr (i + 1) r
theorem argFr_at : ∀ (vs : List Value) (i t : Nat) (v : Value), lk (argFr i vs) t = some v → i ≤ t ∧ vs[t - i]? = some v
  | [], i, t, v, h => by cases h
  | u :: r, i, t, v, h => by
    unfold argFr at h
    by_cases ht : i = t
    · subst ht
      rw [lk_same] at h
      cases h
      exact ⟨Nat.le_refl _, by simp⟩
    · rw [lk_ne _ _ ht] at h
      obtain ⟨h1, h2⟩ := argFr_at r (i + 1) t v h
      refine ⟨by omega, ?_⟩
      rw [show t - i = (t - (i + 1)) + 1 by omega, List.getElem?_cons_succ]
      exact h2
theorem calls_of {f : FuncId} {fn : Func} {c : Code} {vs : List Value} {R : Value → World → Prop} (hf : P.funcs[f]? = some fn) (hb : fn.body = some c) (hn : fn.ntmps = n) (hsz : Nat.ble vs.length n = true)
    (h : wc P n c (bodyQ P fn R n) (argFr 0 vs) w) : Calls P f vs.toArray w fun e w' => ∃ v, e = .returned v ∧ R v w' := by
  refine calls_of_wp hf hb ?_
  have hle : vs.length ≤ n := Nat.le_of_ble_eq_true hsz
  refine Code.wp_mono ?_ (h _ ⟨rfl, ?_, fun t v hv => ?_⟩)
  · rintro e a w' ⟨l', hl, q⟩
    cases e with
    | normal => obtain ⟨v, hr, hR⟩ := q; exact ⟨hl.nodef, v, hr a hl, v, rfl, hR⟩
    | ret => obtain ⟨v, hr, hR⟩ := q; exact ⟨hl.nodef, v, hr a hl, v, rfl, hR⟩
    | _ => exact q.elim
  · simp only [Array.size_append, Array.size_replicate, List.size_toArray, hn]
    omega
  · obtain ⟨_, h2⟩ := argFr_at vs 0 t v hv
    have hlt : t < vs.length := (List.getElem?_eq_some_iff.1 h2).1
    rw [Array.getElem?_append_left (by simpa using hlt)]
    simpa using h2
theorem res1 {fn : Func} {t : Tmp} (hr : fn.results = #[.tmp t]) (h : lk l t = some v) : Res P n l w fn v := fun a ha => by
  have := ha.at_ t v h
  rw [results_tmp hr, Array.getD_eq_getD_getElem?, this]
  rfl
theorem res2 {fn : Func} {t1 t2 : Tmp} {v1 v2 : Value} (hr : fn.results = #[.tmp t1, .tmp t2]) (h1 : lk l t1 = some v1) (h2 : lk l t2 = some v2) : Res P n l w fn (.tuple #[v1, v2]) := fun a ha => by
  rw [results_tmp2 hr, Array.getD_eq_getD_getElem?, Array.getD_eq_getD_getElem?, ha.at_ _ _ h1, ha.at_ _ _ h2]
  rfl
theorem res0 {fn : Func} (hr : fn.results = #[]) : Res P n l w fn (.tuple #[]) := fun _ _ => results_none hr _ _ _
/-- The first result lies in memory. -/
theorem resc {fn : Func} {t : Tmp} {ty : TypeId} {p : Addr} (hr : fn.results = #[.cell t ty]) (h : lk l t = some (.pointer (some p))) (hv : (loadVar ty p).run P w = .ok v w) : Res P n l w fn v := fun a ha => by
  have h1 := ha.at_ _ _ h
  simp [results, hr, Array.getD_eq_getD_getElem?, h1, asAddr, hv]
theorem resc2 {fn : Func} {t t2 : Tmp} {ty : TypeId} {p : Addr} {v2 : Value} (hr : fn.results = #[.cell t ty, .tmp t2]) (h : lk l t = some (.pointer (some p))) (hv : (loadVar ty p).run P w = .ok v w) (h2 : lk l t2 = some v2) : Res P n l w fn (.tuple #[v, v2]) := fun a ha => by
  have h1 := ha.at_ _ _ h
  have h3 := ha.at_ _ _ h2
  simp [results, hr, Array.getD_eq_getD_getElem?, h1, h3, asAddr, hv]
theorem resc3 {fn : Func} {t t2 : Tmp} {ty ty2 : TypeId} {p p2 : Addr} {v2 : Value} (hr : fn.results = #[.cell t ty, .cell t2 ty2]) (h : lk l t = some (.pointer (some p))) (hv : (loadVar ty p).run P w = .ok v w) (h2 : lk l t2 = some (.pointer (some p2))) (hv2 : (loadVar ty2 p2).run P w = .ok v2 w) : Res P n l w fn (.tuple #[v, v2]) := fun a ha => by
  have h1 := ha.at_ _ _ h
  have h3 := ha.at_ _ _ h2
  simp [results, hr, Array.getD_eq_getD_getElem?, h1, h3, asAddr, hv, hv2]

/-! ### a region of open order whose operations change nothing -/
theorem wpStill_mono' {ops : Array Oper} {w : World} {A B : Act → Prop} (hq : ∀ a, A a → B a) : ∀ (rest : List Oper) (a : Act), wpStill P ops w A rest a → wpStill P ops w B rest a
  | [], a, h => hq a h
  | o :: rest, a, h => by
    unfold wpStill at h ⊢
    split
    · rename_i hw
      rw [if_pos hw] at h
      exact Oper.still_mono (fun a' => wpStill_mono' hq rest a') h
    · rename_i hw
      rw [if_neg hw] at h
      exact wpStill_mono' hq rest _ h
def ws (P : Program) (n : Nat) (ops : Array Oper) (rest : List Oper) (Q : Fr → Prop) (l : Fr) (w : World) : Prop := ∀ a, Ag n l a → wpStill P ops w (fun a' => ∃ l', Ag n l' a' ∧ Q l') rest a
variable {Qs : Fr → Prop}
theorem ws_nil (h : Qs l) : ws P n ops [] Qs l w := fun _ ha => wpStill_nil ⟨l, ha, h⟩
theorem ws_v (hd : o.dst = some d) (hg : o.guard = none) (hn : Nat.ble (d + 1) n = true) (hv : Vs P n l o w v) (h : ws P n ops rest Qs ((d, v) :: l) w) : ws P n ops (o :: rest) Qs l w := fun a ha => by
  unfold wpStill
  rw [if_pos (by simp [Region.wanted, hg])]
  unfold Oper.still
  rw [hv a ha, Oper.stillUpon_value, hd]
  exact h _ (ha.put hn v)
theorem ws_on {dst : Option Tmp} {op : Op} {ty : TypeId} {pos : String} {af : Array Edge} {j dj : Nat} {b : Bool} (hj : (ops[j]?).bind (·.dst) = some dj) (hb : lk l dj = some (.bool b))
    (h : ws P n ops ({ dst := dst, op := op, type := ty, pos := pos, after := af, guard := none } :: rest) Qs l w) : ws P n ops ({ dst := dst, op := op, type := ty, pos := pos, after := af, guard := some (j, b) } :: rest) Qs l w := fun a ha => by
  have h1 := h a ha
  unfold wpStill at h1 ⊢
  rw [if_pos (by simp [Region.wanted, yielded_at ha hj hb])]
  rw [if_pos (by simp [Region.wanted])] at h1
  exact h1
theorem ws_off {dst : Nat} {op : Op} {ty : TypeId} {pos : String} {af : Array Edge} {j dj : Nat} {b b' : Bool} (hj : (ops[j]?).bind (·.dst) = some dj) (hb : lk l dj = some (.bool b')) (hne : b' = !b) (hn : Nat.ble (dst + 1) n = true)
    (h : ws P n ops rest Qs ((dst, undef) :: l) w) : ws P n ops ({ dst := some dst, op := op, type := ty, pos := pos, after := af, guard := some (j, b) } :: rest) Qs l w := fun a ha => by
  unfold wpStill
  rw [if_neg (by simp [Region.wanted, yielded_at ha hj hb, hne])]
  exact h _ (ha.put hn _)
theorem ws_offu {dst : Nat} {op : Op} {ty : TypeId} {pos : String} {af : Array Edge} {j dj : Nat} {b : Bool} (hj : (ops[j]?).bind (·.dst) = some dj) (hb : lk l dj = some undef) (hn : Nat.ble (dst + 1) n = true)
    (h : ws P n ops rest Qs ((dst, undef) :: l) w) : ws P n ops ({ dst := some dst, op := op, type := ty, pos := pos, after := af, guard := some (j, b) } :: rest) Qs l w := fun a ha => by
  unfold wpStill
  rw [if_neg (by simp [Region.wanted, yielded_un ha hj hb])]
  exact h _ (ha.put hn _)
theorem ws_call {f : FuncId} {xs : List Operand} {vs : List Value} {ats : Array TypeId} (he : Enters P f) (hx : evs l xs = some vs) (hn : Nat.ble (d + 1) n = true)
    (hc : Calls P f vs.toArray w fun e w' => e = .returned v ∧ w' = w)
    (h : ws P n ops rest Qs ((d, v) :: l) w) : ws P n ops (⟨some d, .call { callee := .value (.func f), args := xs.toArray, argTypes := ats }, ty, pos, af, none⟩ :: rest) Qs l w := fun a ha => by
  unfold wpStill
  rw [if_pos (by simp [Region.wanted])]
  unfold Oper.still
  have hargs : xs.toArray.map a.eval = vs.toArray := by rw [List.map_toArray, ha.evals hx]
  have hrun : (execOp a.eval ⟨some d, .call { callee := .value (.func f), args := xs.toArray, argTypes := ats }, ty, pos, af, none⟩).run P w = .ok (.enter f vs.toArray) w := by
    simp only [execOp, resolve, Act.eval, Deferred.ofValue, Sem.run_bind, Sem.run_pure, Result.andThen_ok, invoke, hargs, Array.empty_append, Array.append_empty]
    exact he _ _
  rw [hrun]
  exact ⟨rfl, v, hc, h _ (ha.put hn v)⟩
theorem wc_still {id : Nat} {ol : List Oper} (hm : P.follows .mixedOrders = true) (hB : Region.lexB .any ol.toArray = true) (h : ws P n ol.toArray ol (fun l' => Q .normal l' w.drew) l w.drew) : wc P n (.region id ol.toArray true) Q l w := fun a ha =>
  wp_region_still_lit hm hB (by
    have h1 := h a ha
    exact h1)
/-- A still head, then operations in the text's order. -/
theorem wc_tail {id : Nat} {ol : List Oper} (m : Nat) (hm : P.follows .mixedOrders = true) (hB : Region.lexTailB .any ol.toArray m = true) (h : ws P n ol.toArray (ol.take m) (fun l' => wl P n ol.toArray (ol.drop m) Q l' w.drew) l w.drew) : wc P n (.region id ol.toArray true) Q l w := fun a ha =>
  wp_region_still_tail m hm hB (by
    have h1 := h a ha
    refine wpStill_mono' ?_ _ _ h1
    rintro a' ⟨l', hl, q⟩
    exact q a' hl)
end
end Go.Proofs.YtkpehkadammppaaFx
