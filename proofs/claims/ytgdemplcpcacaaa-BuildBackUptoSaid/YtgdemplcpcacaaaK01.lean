/- Frames as lists of slots, and the rules by which code is walked over them. The call's own memory as a list of chunks that share no block; what each operation does to it. Rows that are read, rows of the call's own; what operations do with them. Maps of the call's own: made, read, written, gone through. Rules for the generated walks: sums without overflow, fields by closed facts, maps at their operations. Small facts on lists. -/
import Derived.Tactics
import Derived.StillTail
import Derived.Laws.Entries
import Derived.Laws.Strings
import Derived.Laws.Small
import Derived.Laws.Unary
import Derived.Laws.Slices
import Derived.Laws.Wrap64
import Derived.KernelRfl
import Derived.Maps.RangeWalk
import Derived.Maps.AppendAt
import Derived.Laws.MakeOwn
import Derived.Laws.OwnMore
import Derived.Deep.AppendLies
import Derived.Below
import Derived.StringKeys
import Derived.IntWalk
import Derived.WalkArith
set_option linter.unusedVariables false
/-! Frames as lists of slots, and the rules by which code is walked over them. -/
namespace Go.Proofs.YtgdemplcpcacaaaFx
open Go

abbrev Fr := List (Nat × Value)
/-- The value of a slot, if the list tells it. -/
def lk : Fr → Nat → Option Value
  | [], _ => none
  | (k, v) :: r, t => bif Nat.beq k t then some v else lk r t
theorem lk_same (k : Nat) (v : Value) (r : Fr) : lk ((k, v) :: r) k = some v := by simp [lk, Nat.beq_refl]
theorem lk_ne {k t : Nat} (v : Value) (r : Fr) (h : k ≠ t) : lk ((k, v) :: r) t = lk r t := by
  have : Nat.beq k t = false := by
    cases hb : Nat.beq k t
    · rfl
    · exact absurd (Nat.eq_of_beq_eq_true hb) h
  simp [lk, this]

/-- The frame holds what the list tells. -/
structure Ag (n : Nat) (l : Fr) (a : Act) : Prop where
  nodef : a.defers = []
  size : a.tmps.size = n
  at_ : ∀ t v, lk l t = some v → a.tmps[t]? = some v

def ev (l : Fr) : Operand → Option Value
  | .tmp t => lk l t
  | .const v => some v
  | .global g => some (.pointer (some ⟨g, 0, none⟩))
  | .func f => some (.func (.func f) #[] #[])
theorem Ag.eval {n : Nat} {l : Fr} {a : Act} (h : Ag n l a) {x : Operand} {v : Value} (hx : ev l x = some v) : a.eval x = v := by
  cases x with
  | tmp t =>
    have := h.at_ t v hx
    simp [Act.eval, Array.getD_eq_getD_getElem?, this]
  | const u => exact Option.some.inj hx
  | global g => exact Option.some.inj hx
  | func f => exact Option.some.inj hx
theorem Ag.put {n d : Nat} {l : Fr} {a : Act} (h : Ag n l a) (hd : Nat.ble (d + 1) n = true) (v : Value) : Ag n ((d, v) :: l) (a.put (some d) v) := by
  have hd' : d < n := Nat.le_of_ble_eq_true hd
  refine ⟨h.nodef, by simp [Act.put, h.size], fun t u hu => ?_⟩
  simp only [Act.put]
  by_cases ht : d = t
  · subst ht
    rw [lk_same] at hu
    cases hu
    rw [Array.getElem?_setIfInBounds_self_of_lt (by rw [h.size]; exact hd')]
  · rw [lk_ne _ _ ht] at hu
    rw [Array.getElem?_setIfInBounds_ne ht]
    exact h.at_ t u hu
theorem Ag.put_none {n : Nat} {l : Fr} {a : Act} (h : Ag n l a) (v : Value) : Ag n l (a.put none v) := h
/-- What the list l' tells, l tells. -/
def Sub (l' l : Fr) : Prop := ∀ t v, lk l' t = some v → lk l t = some v
theorem Sub.refl (l : Fr) : Sub l l := fun _ _ h => h
theorem sn (l : Fr) : Sub [] l := fun _ _ h => by cases h
theorem sc {l r : Fr} {t : Nat} {v : Value} (h : lk l t = some v) (hr : Sub r l) : Sub ((t, v) :: r) l := fun u x hu => by
  by_cases ht : t = u
  · subst ht
    rw [lk_same] at hu
    cases hu
    exact h
  · rw [lk_ne _ _ ht] at hu
    exact hr u x hu
theorem Ag.sub {n : Nat} {l l' : Fr} {a : Act} (h : Ag n l a) (hs : Sub l' l) : Ag n l' a := ⟨h.nodef, h.size, fun t v hv => h.at_ t v (hs t v hv)⟩

abbrev Post := Exit → Fr → World → Prop
def up (n : Nat) (Q : Post) (e : Exit) (a : Act) (w : World) : Prop := ∃ l, Ag n l a ∧ Q e l w
def wc (P : Program) (n : Nat) (c : Code) (Q : Post) (l : Fr) (w : World) : Prop := ∀ a, Ag n l a → c.wp P (up n Q) a w
def wl (P : Program) (n : Nat) (ops : Array Oper) (rest : List Oper) (Q : Post) (l : Fr) (w : World) : Prop := ∀ a, Ag n l a → wpList P ops (up n Q) rest a w
def thenQ (K : Fr → World → Prop) (Q : Post) : Post
  | .normal, l, w => K l w
  | e, l, w => Q e l w
def blockQ (id : Nat) (Q : Post) : Post
  | .exit id', l, w => bif Nat.beq id' id then Q .normal l w else Q (.exit id') l w
  | e, l, w => Q e l w

section
variable {P : Program} {n : Nat} {Q : Post} {l : Fr} {w : World}
theorem wc_sub {c : Code} {l' : Fr} (hs : Sub l' l) (h : wc P n c Q l' w) : wc P n c Q l w := fun a ha => h a (ha.sub hs)
theorem wc_mono {c : Code} {Q' : Post} (hq : ∀ e l w, Q e l w → Q' e l w) (h : wc P n c Q l w) : wc P n c Q' l w := fun a ha => Code.wp_mono (fun _ _ _ ⟨l', hl, q⟩ => ⟨l', hl, hq _ _ _ q⟩) (h a ha)
theorem wc_skip (h : Q .normal l w) : wc P n .skip Q l w := fun _ ha => wp_skip ⟨l, ha, h⟩
theorem wc_ret (h : Q .ret l w) : wc P n .ret Q l w := fun _ ha => wp_ret ⟨l, ha, h⟩
theorem wc_exit {id : Nat} (h : Q (.exit id) l w) : wc P n (.exit id) Q l w := fun _ ha => wp_exit ⟨l, ha, h⟩
theorem wc_seq {x y : Code} (h : wc P n x (thenQ (fun l w => wc P n y Q l w) Q) l w) : wc P n (.seq x y) Q l w := fun a ha =>
  wp_seq (Code.wp_mono (fun e a' w' ⟨l', hl, q⟩ => by cases e <;> first | exact q a' hl | exact ⟨l', hl, q⟩) (h a ha))
/-- What follows, by a middle assertion: for where several ways meet. -/
theorem wc_mid {x y : Code} (M : Fr → World → Prop) (h : wc P n x (thenQ M Q) l w) (k : ∀ l w, M l w → wc P n y Q l w) : wc P n (.seq x y) Q l w :=
  wc_seq (wc_mono (fun e l w q => by cases e <;> first | exact k _ _ q | exact q) h)
theorem wc_block {id : Nat} {c : Code} (h : wc P n c (blockQ id Q) l w) : wc P n (.block id c) Q l w := fun a ha =>
  wp_block (Code.wp_mono (fun e a' w' ⟨l', hl, q⟩ => by
    cases e with
    | exit id' =>
      simp only [Exit.inBlock]
      by_cases hid : id' = id
      · subst hid
        rw [if_pos rfl]
        exact ⟨l', hl, by simpa [blockQ, Nat.beq_refl] using q⟩
      · rw [if_neg hid]
        have hb : Nat.beq id' id = false := by
          cases hb : Nat.beq id' id
          · rfl
          · exact absurd (Nat.eq_of_beq_eq_true hb) hid
        exact ⟨l', hl, by simpa [blockQ, hb] using q⟩
    | _ => exact ⟨l', hl, q⟩) (h a ha))
theorem wc_cond {c : Operand} {x y : Code} {b : Bool} (hc : ev l c = some (.bool b)) (ht : b = true → wc P n x Q l w) (hf : b = false → wc P n y Q l w) : wc P n (.cond c x y) Q l w := fun a ha =>
  wp_cond_split (ha.eval hc) (fun h => ht h a ha) (fun h => hf h a ha)
theorem wc_cond_t {c : Operand} {x y : Code} (hc : ev l c = some (.bool true)) (h : wc P n x Q l w) : wc P n (.cond c x y) Q l w := wc_cond hc (fun _ => h) (fun h => by cases h)
theorem wc_cond_f {c : Operand} {x y : Code} (hc : ev l c = some (.bool false)) (h : wc P n y Q l w) : wc P n (.cond c x y) Q l w := wc_cond hc (fun h => by cases h) (fun _ => h)
theorem wc_cond_y {c : Operand} {x y : Code} {b : Bool} (hc : ev l c = some (.bool b)) (hb : b = true) (h : wc P n x Q l w) : wc P n (.cond c x y) Q l w := wc_cond hc (fun _ => h) (fun h => by rw [hb] at h; cases h)
theorem wc_cond_n {c : Operand} {x y : Code} {b : Bool} (hc : ev l c = some (.bool b)) (hb : b = false) (h : wc P n y Q l w) : wc P n (.cond c x y) Q l w := wc_cond hc (fun h => by rw [hb] at h; cases h) (fun _ => h)
/-- A loop: its head's frame and what holds there, by a state s. -/
theorem wc_loop {σ : Type} {c : Code} (fr : σ → Fr) (inv : σ → World → Prop) (μ : σ → Nat) (s0 : σ) (h0 : Sub (fr s0) l) (hi : inv s0 w)
    (round : ∀ s w, inv s w → wc P n c (thenQ (fun l' w' => ∃ s', Sub (fr s') l' ∧ inv s' w' ∧ μ s' < μ s) Q) (fr s) w) : wc P n (.loop c) Q l w := by
  have key : ∀ (m : Nat) (s : σ) (w : World) (a : Act), μ s = m → inv s w → Ag n (fr s) a → ∀ (b : Frame) (k : List Item) (cs : List Frame),
      ∃ e a' w', up n Q e a' w' ∧ Arrives P (lone (b.at a (.code c :: .inLoop c :: k)) cs w) b k cs e a' w' := by
    intro m
    induction m using Nat.strongRecOn with
    | _ m ih =>
      intro s w a hm hs ha b k cs
      obtain ⟨e, a1, w1, ⟨l1, hl1, q⟩, harr⟩ := round s w hs a ha b (.inLoop c :: k) cs
      cases e with
      | normal =>
        obtain ⟨s', hsub, hs', hlt⟩ := q
        obtain ⟨e2, a2, w2, q2, harr2⟩ := ih (μ s') (hm ▸ hlt) s' w1 a1 rfl hs' (hl1.sub hsub) b k cs
        exact ⟨e2, a2, w2, q2, .of_steps (Steps.trans harr (.one step_inLoop)) harr2⟩
      | exit id => exact ⟨_, a1, w1, ⟨l1, hl1, q⟩, .pass (x := .inLoop c) rfl (fun _ _ => .inl (by simp)) harr⟩
      | goto l => exact ⟨_, a1, w1, ⟨l1, hl1, q⟩, .pass (x := .inLoop c) rfl (fun _ _ => .inl (by simp)) harr⟩
      | ret => exact ⟨_, a1, w1, ⟨l1, hl1, q⟩, .pass (x := .inLoop c) rfl (fun _ _ => .inl (by simp)) harr⟩
      | panic ch => exact ⟨_, a1, w1, ⟨l1, hl1, q⟩, .pass (x := .inLoop c) rfl (fun _ _ => .inl (by simp)) harr⟩
      | outgrown => exact ⟨_, a1, w1, ⟨l1, hl1, q⟩, .pass (x := .inLoop c) rfl (fun _ _ => .inl (by simp)) harr⟩
  intro a ha b k cs
  obtain ⟨e, a', w', hq, harr⟩ := key _ s0 w a rfl hi (ha.sub h0) b k cs
  exact ⟨e, a', w', hq, .of_steps (.one step_loop) harr⟩

/-! ### regions and operations -/
theorem wc_region {id : Nat} {ops : List Oper} (h : wl P n ops.toArray ops Q l w) : wc P n (.region id ops.toArray false) Q l w := fun a ha => wp_region_lit (h a ha)
theorem wl_nil {ops : Array Oper} (h : Q .normal l w) : wl P n ops [] Q l w := fun _ ha => wpList_nil ⟨l, ha, h⟩
/-- The operation yields v, whatever the frame's other slots are; the world is then w'. -/
def Vw (P : Program) (n : Nat) (l : Fr) (o : Oper) (w : World) (v : Value) (w' : World) : Prop := ∀ a, Ag n l a → (execOp a.eval o).run P w = .ok (.value v) w'
def Sk (P : Program) (n : Nat) (l : Fr) (o : Oper) (w : World) (w' : World) : Prop := ∀ a, Ag n l a → (execOp a.eval o).run P w = .ok .skip w'
/-- The same, the world being the old one. -/
abbrev Vs (P : Program) (n : Nat) (l : Fr) (o : Oper) (w : World) (v : Value) : Prop := Vw P n l o w v w
def putD (d : Option Nat) (v : Value) (l : Fr) : Fr := match d with | some d => (d, v) :: l | none => l
variable {ops : Array Oper} {rest : List Oper} {o : Oper} {d : Nat} {v : Value} {w' : World}
theorem wl_v (hd : o.dst = some d) (hg : o.guard = none) (hn : Nat.ble (d + 1) n = true) (hv : Vw P n l o w v w') (h : wl P n ops rest Q ((d, v) :: l) w') : wl P n ops (o :: rest) Q l w := fun a ha => by
  refine wpList_plain hg fun K hK => ?_
  unfold Oper.wp
  rw [hv a ha, Oper.upon_value]
  exact hK _ _ (h _ (by rw [hd]; exact ha.put hn v))
theorem wl_v0 (hd : o.dst = none) (hg : o.guard = none) (hv : Vw P n l o w v w') (h : wl P n ops rest Q l w') : wl P n ops (o :: rest) Q l w := fun a ha => by
  refine wpList_plain hg fun K hK => ?_
  unfold Oper.wp
  rw [hv a ha, Oper.upon_value]
  exact hK _ _ (h _ (by rw [hd]; exact ha))
theorem wl_s (hd : o.dst = none) (hg : o.guard = none) (hv : Sk P n l o w w') (h : wl P n ops rest Q l w') : wl P n ops (o :: rest) Q l w := fun a ha => by
  refine wpList_plain hg fun K hK => ?_
  unfold Oper.wp
  rw [hv a ha, Oper.upon_skip]
  exact hK _ _ (h _ (by rw [hd]; exact ha))
/-- A guarded operation: wanted, or not. -/
theorem yielded_at {a : Act} (ha : Ag n l a) {j dj : Nat} {b : Bool} (hj : (ops[j]?).bind (·.dst) = some dj) (hb : lk l dj = some (.bool b)) : yielded ops a.tmps j = some b := by
  simp [yielded, hj, ha.at_ _ _ hb]
theorem wl_on {dst : Option Tmp} {op : Op} {ty : TypeId} {pos : String} {af : Array Edge} {j dj : Nat} {b : Bool} (hj : (ops[j]?).bind (·.dst) = some dj) (hb : lk l dj = some (.bool b))
    (h : wl P n ops ({ dst := dst, op := op, type := ty, pos := pos, after := af, guard := none } :: rest) Q l w) : wl P n ops ({ dst := dst, op := op, type := ty, pos := pos, after := af, guard := some (j, b) } :: rest) Q l w := fun a ha => by
  have h1 := h a ha
  unfold wpList at h1 ⊢
  rw [if_pos (by simp [Region.wanted, yielded_at ha hj hb])]
  rw [if_pos (by simp [Region.wanted])] at h1
  exact h1
theorem wl_off {dst : Nat} {op : Op} {ty : TypeId} {pos : String} {af : Array Edge} {j dj : Nat} {b b' : Bool} (hj : (ops[j]?).bind (·.dst) = some dj) (hb : lk l dj = some (.bool b')) (hne : b' = !b) (hn : Nat.ble (dst + 1) n = true)
    (h : wl P n ops rest Q ((dst, undef) :: l) w) : wl P n ops ({ dst := some dst, op := op, type := ty, pos := pos, after := af, guard := some (j, b) } :: rest) Q l w := fun a ha => by
  unfold wpList
  rw [if_neg (by simp [Region.wanted, yielded_at ha hj hb, hne])]
  exact h _ (ha.put hn _)
theorem wl_off0 {op : Op} {ty : TypeId} {pos : String} {af : Array Edge} {j dj : Nat} {b b' : Bool} (hj : (ops[j]?).bind (·.dst) = some dj) (hb : lk l dj = some (.bool b')) (hne : b' = !b)
    (h : wl P n ops rest Q l w) : wl P n ops ({ dst := none, op := op, type := ty, pos := pos, after := af, guard := some (j, b) } :: rest) Q l w := fun a ha => by
  unfold wpList
  rw [if_neg (by simp [Region.wanted, yielded_at ha hj hb, hne])]
  exact h _ ha

theorem yielded_un {a : Act} (ha : Ag n l a) {j dj : Nat} (hj : (ops[j]?).bind (·.dst) = some dj) (hb : lk l dj = some undef) : yielded ops a.tmps j = none := by
  simp [yielded, hj, ha.at_ _ _ hb, undef]
theorem wl_offu {dst : Nat} {op : Op} {ty : TypeId} {pos : String} {af : Array Edge} {j dj : Nat} {b : Bool} (hj : (ops[j]?).bind (·.dst) = some dj) (hb : lk l dj = some undef) (hn : Nat.ble (dst + 1) n = true)
    (h : wl P n ops rest Q ((dst, undef) :: l) w) : wl P n ops ({ dst := some dst, op := op, type := ty, pos := pos, after := af, guard := some (j, b) } :: rest) Q l w := fun a ha => by
  unfold wpList
  rw [if_neg (by simp [Region.wanted, yielded_un ha hj hb])]
  exact h _ (ha.put hn _)
/-! ### values without memory -/
variable {x y : Operand} {ty t t2 : TypeId} {pos : String} {af : Array Edge} {gd : Option (Nat × Bool)} {dst : Option Tmp}
theorem v_move (hx : ev l x = some v) : Vs P n l ⟨dst, .move x, ty, pos, af, gd⟩ w v := fun a ha => by simp [execOp, ha.eval hx]
theorem v_assign (hx : ev l x = some v) : Vs P n l ⟨dst, .assign x, ty, pos, af, gd⟩ w v := fun a ha => by simp [execOp, ha.eval hx]
theorem v_pick {c : Operand} {b : Bool} (hc : ev l c = some (.bool b)) (hx : b = true → ev l x = some v) (hy : b = false → ev l y = some v) : Vs P n l ⟨dst, .pick c x y, ty, pos, af, gd⟩ w v := fun a ha => by
  cases b
  · simp [execOp, ha.eval hc, asBool, ha.eval (hy rfl)]
  · simp [execOp, ha.eval hc, asBool, ha.eval (hx rfl)]
variable {k : IntKind} {i j : Int}
theorem v_add (hx : ev l x = some (.int k i)) (hy : ev l y = some (.int k j)) : Vs P n l ⟨dst, .binOp .add t x y t2, ty, pos, af, gd⟩ w (.int k (k.wrap (i + j))) := fun a ha => by simp [execOp, ha.eval hx, ha.eval hy, eqGuard_at_int, binOp_add, Op.intArith]
theorem v_sub (hx : ev l x = some (.int k i)) (hy : ev l y = some (.int k j)) : Vs P n l ⟨dst, .binOp .sub t x y t2, ty, pos, af, gd⟩ w (.int k (k.wrap (i - j))) := fun a ha => by simp [execOp, ha.eval hx, ha.eval hy, eqGuard_at_int, binOp_sub, Op.intArith]
theorem v_mul (hx : ev l x = some (.int k i)) (hy : ev l y = some (.int k j)) : Vs P n l ⟨dst, .binOp .mul t x y t2, ty, pos, af, gd⟩ w (.int k (k.wrap (i * j))) := fun a ha => by simp [execOp, ha.eval hx, ha.eval hy, eqGuard_at_int, binOp_mul, Op.intArith]
theorem v_lss (hx : ev l x = some (.int k i)) (hy : ev l y = some (.int k j)) : Vs P n l ⟨dst, .binOp .lss t x y t2, ty, pos, af, gd⟩ w (.bool (decide (i < j))) := fun a ha => by simp [execOp, ha.eval hx, ha.eval hy, eqGuard_at_int, binOp_lss]
theorem v_leq (hx : ev l x = some (.int k i)) (hy : ev l y = some (.int k j)) : Vs P n l ⟨dst, .binOp .leq t x y t2, ty, pos, af, gd⟩ w (.bool (decide (i ≤ j))) := fun a ha => by simp [execOp, ha.eval hx, ha.eval hy, eqGuard_at_int, binOp_leq]
theorem v_gtr (hx : ev l x = some (.int k i)) (hy : ev l y = some (.int k j)) : Vs P n l ⟨dst, .binOp .gtr t x y t2, ty, pos, af, gd⟩ w (.bool (decide (i > j))) := fun a ha => by simp [execOp, ha.eval hx, ha.eval hy, eqGuard_at_int, binOp_gtr]
theorem v_geq (hx : ev l x = some (.int k i)) (hy : ev l y = some (.int k j)) : Vs P n l ⟨dst, .binOp .geq t x y t2, ty, pos, af, gd⟩ w (.bool (decide (i ≥ j))) := fun a ha => by simp [execOp, ha.eval hx, ha.eval hy, eqGuard_at_int, binOp_geq]
theorem v_eql (hx : ev l x = some (.int k i)) (hy : ev l y = some (.int k j)) : Vs P n l ⟨dst, .binOp .eql t x y t2, ty, pos, af, gd⟩ w (.bool (decide (i = j))) := fun a ha => by
  simp only [execOp, ha.eval hx, ha.eval hy, eqGuard_at_int, binOp_eql, Sem.run_bind, Sem.run_pure, Result.andThen_ok]
  rw [show (i == j) = decide (i = j) from rfl]
theorem v_neq (hx : ev l x = some (.int k i)) (hy : ev l y = some (.int k j)) : Vs P n l ⟨dst, .binOp .neq t x y t2, ty, pos, af, gd⟩ w (.bool (!decide (i = j))) := fun a ha => by
  simp only [execOp, ha.eval hx, ha.eval hy, eqGuard_at_int, binOp_neq, Sem.run_bind, Sem.run_pure, Result.andThen_ok]
  rw [show (i != j) = !decide (i = j) from rfl]
theorem v_eqlb {p q : Bool} (ht : P.underlying t = some .bool) (hx : ev l x = some (.bool p)) (hy : ev l y = some (.bool q)) : Vs P n l ⟨dst, .binOp .eql t x y t2, ty, pos, af, gd⟩ w (.bool (p == q)) := fun a ha => by
  simp [execOp, ha.eval hx, ha.eval hy, eqGuard_at_bool, run_eql_bool w t p q ht]
theorem v_neqb {p q : Bool} (ht : P.underlying t = some .bool) (hx : ev l x = some (.bool p)) (hy : ev l y = some (.bool q)) : Vs P n l ⟨dst, .binOp .neq t x y t2, ty, pos, af, gd⟩ w (.bool (!(p == q))) := fun a ha => by
  simp [execOp, ha.eval hx, ha.eval hy, eqGuard_at_bool, run_neq_bool w t p q ht]
theorem ba_beq (p q : ByteArray) : (p.toList == q.toList) = decide (p = q) := by
  rw [Bool.eq_iff_iff]
  simp only [beq_iff_eq, decide_eq_true_eq]
  constructor
  · intro h
    rw [ByteArray.toList_eq, ByteArray.toList_eq] at h
    exact ByteArray.ext (Array.toList_inj.1 h)
  · rintro rfl
    rfl
theorem v_eqls {p q : ByteArray} (hx : ev l x = some (.string p)) (hy : ev l y = some (.string q)) : Vs P n l ⟨dst, .binOp .eql t x y t2, ty, pos, af, gd⟩ w (.bool (decide (p = q))) := fun a ha => by
  simp [execOp, ha.eval hx, ha.eval hy, eqGuard_at_string, binOp_string_eql, ba_beq]
theorem v_neqs {p q : ByteArray} (hx : ev l x = some (.string p)) (hy : ev l y = some (.string q)) : Vs P n l ⟨dst, .binOp .neq t x y t2, ty, pos, af, gd⟩ w (.bool (!decide (p = q))) := fun a ha => by
  simp [execOp, ha.eval hx, ha.eval hy, eqGuard_at_string, binOp_string_neq, ba_beq]
theorem v_not {p : Bool} (hx : ev l x = some (.bool p)) : Vs P n l ⟨dst, .unOp .not t x, ty, pos, af, gd⟩ w (.bool (!p)) := fun a ha => by
  simp [execOp, ha.eval hx, unary_not]
theorem v_neg (hx : ev l x = some (.int k i)) : Vs P n l ⟨dst, .unOp .neg t x, ty, pos, af, gd⟩ w (.int k (k.wrap (0 - i))) := fun a ha => by
  simp [execOp, ha.eval hx, unary_neg, Op.intArith]
theorem v_conv {k2 : IntKind} {ds : TypeDesc} (hs : P.underlying t = some ds) (hd : P.underlying t2 = some (.int k2)) (hx : ev l x = some (.int k i)) : Vs P n l ⟨dst, .convert t t2 x, ty, pos, af, gd⟩ w (.int k2 (k2.wrap i)) := fun a ha => by
  simp [execOp, ha.eval hx, convert, run_underlying hs, run_underlying hd, Conv.intToInt]
theorem v_extract {vs : Array Value} {m : Nat} (hx : ev l x = some (.tuple vs)) (hm : vs[m]? = some v) : Vs P n l ⟨dst, .extract x m, ty, pos, af, gd⟩ w v := fun a ha => by
  simp [execOp, ha.eval hx, Instr.extract, hm]
theorem v_len {A : Option Addr} {m c e : Nat} (ht : P.underlying t = some (.slice e)) (hx : ev l x = some (.slice A m c)) : Vs P n l ⟨dst, .call { callee := .builtin .len, args := #[x], argTypes := #[t] }, ty, pos, af, gd⟩ w (.int .i64 m) := fun a ha => by
  simp [execOp, ha.eval hx, resolve, invoke, builtin, Builtin.len_, run_underlying ht, goInt]
theorem v_lens {s : ByteArray} (ht : P.underlying t = some .string) (hx : ev l x = some (.string s)) : Vs P n l ⟨dst, .call { callee := .builtin .len, args := #[x], argTypes := #[t] }, ty, pos, af, gd⟩ w (.int .i64 s.size) := fun a ha => by
  simp [execOp, ha.eval hx, resolve, invoke, builtin, Builtin.len_, run_underlying ht, goInt]
theorem v_nil {p : Addr} (hx : ev l x = some (.pointer (some p))) : Vs P n l ⟨dst, .nilCheck x, ty, pos, af, gd⟩ w (.pointer (some p)) := fun a ha => by
  simp [execOp, ha.eval hx]
theorem v_index {A : Addr} {m c e sz : Nat} (ht : P.underlying t = some (.slice e)) (hsz : ∀ W, (sizeOf e).run P W = .ok sz W) (hx : ev l x = some (.slice (some A) m c)) (hy : ev l y = some (.int k i)) (h0 : 0 ≤ i) (h1 : i < m) :
    Vs P n l ⟨dst, .indexAddr t x y, ty, pos, af, gd⟩ w (.pointer (some (A.add (i.toNat * sz)))) := fun a ha => by
  simp [execOp, ha.eval hx, ha.eval hy, Instr.indexAt, asIntOf, run_underlying ht, h0, h1, hsz]
theorem v_indexs {s : ByteArray} (ht : P.underlying t = some .string) (hx : ev l x = some (.string s)) (hy : ev l y = some (.int k i)) (h0 : 0 ≤ i) (h1 : i.toNat < s.size) :
    Vs P n l ⟨dst, .index t x y, ty, pos, af, gd⟩ w (.int .u8 (s[i.toNat].toNat)) := fun a ha => by
  simp [execOp, ha.eval hx, ha.eval hy, Instr.index, asIntOf, run_underlying ht, h0, h1]
theorem v_field {s : TypeId} {fs : Array Field} {f : Nat} {fd : Field} {sz : Nat} {b off : Nat} (hs : P.underlying s = some (.struct fs)) (hf : fs[f]? = some fd) (hsz : ∀ W, (sizeOf fd.type).run P W = .ok sz W) (hp : 0 < sz) (hx : ev l x = some (.pointer (some ⟨b, off, none⟩))) :
    Vs P n l ⟨dst, .fieldAddr s x f, ty, pos, af, gd⟩ w (.pointer (some ⟨b, off + fd.offset, none⟩)) := fun a ha => by
  have : sz ≠ 0 := by omega
  simp [execOp, ha.eval hx, Instr.fieldAt, run_underlying hs, hf, Instr.sureAddr, fieldPlace, hsz, this, Addr.add_lit]
theorem v_build {parts : Array (Nat × Operand)} (h : ∀ a, Ag n l a → (Instr.build t (parts.map fun (i, x) => (i, a.eval x))).run P w = .ok v w) : Vs P n l ⟨dst, .build t parts, ty, pos, af, gd⟩ w v := fun a ha => by
  simp [execOp, h a ha]
theorem v_func {fn : Fn} {first captured : Array Operand} {vf vc : Array Value} (hf : ∀ a, Ag n l a → first.map a.eval = vf) (hc : ∀ a, Ag n l a → captured.map a.eval = vc) : Vs P n l ⟨dst, .makeFunc fn first captured, ty, pos, af, gd⟩ w (.func fn vf vc) := fun a ha => by
  simp [execOp, Instr.makeFunc, hf a ha, hc a ha]

/-! ### cuts of strings -/
theorem v_cut {s : ByteArray} {lo hi : Int} {xl xh : Operand} {kl kh : IntKind} (ht : P.underlying t = some .string) (hx : ev l x = some (.string s)) (hl : ev l xl = some (.int kl lo)) (hh : ev l xh = some (.int kh hi)) (h0 : 0 ≤ lo) (h1 : lo ≤ hi) (h2 : hi ≤ s.size) :
    Vs P n l ⟨dst, .slice t x (some xl) (some xh) none, ty, pos, af, gd⟩ w (.string (s.extract lo.toNat hi.toNat)) := fun a ha => by
  have eh : (hi.toNat : Int) = hi := Int.toNat_of_nonneg (by omega)
  simp [execOp, ha.eval hx, ha.eval hl, ha.eval hh, run_sliceAt_string w t _ _ _ _ ht, Instr.slice, run_underlying ht, Instr.sliceBounds, run_sliceBound, h0, h1, h2, eh, (by omega : 0 ≤ hi)]
theorem v_cut_l {s : ByteArray} {lo : Int} {xl : Operand} {kl : IntKind} (ht : P.underlying t = some .string) (hx : ev l x = some (.string s)) (hl : ev l xl = some (.int kl lo)) (h0 : 0 ≤ lo) (h1 : lo ≤ s.size) :
    Vs P n l ⟨dst, .slice t x (some xl) none none, ty, pos, af, gd⟩ w (.string (s.extract lo.toNat s.size)) := fun a ha => by
  simp [execOp, ha.eval hx, ha.eval hl, run_sliceAt_string w t _ _ _ _ ht, run_slice_string_l w t s ht kl lo h0 h1]
theorem v_cut_h {s : ByteArray} {hi : Int} {xh : Operand} {kh : IntKind} (ht : P.underlying t = some .string) (hx : ev l x = some (.string s)) (hh : ev l xh = some (.int kh hi)) (h0 : 0 ≤ hi) (h2 : hi ≤ s.size) :
    Vs P n l ⟨dst, .slice t x none (some xh) none, ty, pos, af, gd⟩ w (.string (s.extract 0 hi.toNat)) := fun a ha => by
  simp [execOp, ha.eval hx, ha.eval hh, run_sliceAt_string w t _ _ _ _ ht, run_slice_string_h w t s ht kh hi h0 h2]

/-! ### calls -/
def Enters (P : Program) (f : FuncId) : Prop := ∀ (args : Array Value) (w : World), (callFunc f args).run P w = .ok (.enter f args) w
theorem enters {f : FuncId} {fn : Func} (hf : P.funcs[f]? = some fn) (hn : (fn.name == "runtime.NumGoroutine") = false) (hb : fn.body.isNone = false) : Enters P f := fun args w => by
  have h1 : (program.run P w) = .ok P w := rfl
  simp only [callFunc, Sem.run_bind, h1, Result.andThen_ok, hf, hn, hb, Bool.false_eq_true, if_false, Sem.run_pure]
/-- The values of operands. -/
def evs (l : Fr) : List Operand → Option (List Value)
  | [] => some []
  | x :: r => match ev l x, evs l r with
    | some v, some vs => some (v :: vs)
    | _, _ => none
theorem Ag.evals {a : Act} (ha : Ag n l a) : ∀ {xs : List Operand} {vs : List Value}, evs l xs = some vs → xs.map a.eval = vs
  | [], vs, h => by simpa [evs] using h
  | x :: r, vs, h => by
    unfold evs at h
    split at h
    · rename_i v us hv hus
      cases h
      rw [List.map_cons, ha.eval hv, ha.evals hus]
    · cases h
theorem wl_call {f : FuncId} {xs : List Operand} {vs : List Value} {ats : Array TypeId} {R : Value → World → Prop} (he : Enters P f) (hx : evs l xs = some vs) (hn : Nat.ble (d + 1) n = true)
    (hc : Calls P f vs.toArray w fun e w' => ∃ v, e = .returned v ∧ R v w')
    (h : ∀ v w', R v w' → wl P n ops rest Q ((d, v) :: l) w') : wl P n ops (⟨some d, .call { callee := .value (.func f), args := xs.toArray, argTypes := ats }, ty, pos, af, none⟩ :: rest) Q l w := fun a ha => by
  refine wpList_plain rfl fun K hK => ?_
  unfold Oper.wp
  have hargs : xs.toArray.map a.eval = vs.toArray := by rw [List.map_toArray, ha.evals hx]
  have hrun : (execOp a.eval ⟨some d, .call { callee := .value (.func f), args := xs.toArray, argTypes := ats }, ty, pos, af, none⟩).run P w = .ok (.enter f vs.toArray) w := by
    simp only [execOp, resolve, Act.eval, Deferred.ofValue, Sem.run_bind, Sem.run_pure, Result.andThen_ok, invoke, hargs, Array.empty_append, Array.append_empty]
    exact he _ _
  rw [hrun, Oper.upon_enter]
  refine hc.mono ?_
  rintro e w' ⟨v, rfl, hr⟩
  exact hK _ _ (h v w' hr _ (ha.put hn v))
theorem wl_call0 {f : FuncId} {xs : List Operand} {vs : List Value} {ats : Array TypeId} {R : Value → World → Prop} (he : Enters P f) (hx : evs l xs = some vs)
    (hc : Calls P f vs.toArray w fun e w' => ∃ v, e = .returned v ∧ R v w')
    (h : ∀ v w', R v w' → wl P n ops rest Q l w') : wl P n ops (⟨none, .call { callee := .value (.func f), args := xs.toArray, argTypes := ats }, ty, pos, af, none⟩ :: rest) Q l w := fun a ha => by
  refine wpList_plain rfl fun K hK => ?_
  unfold Oper.wp
  have hargs : xs.toArray.map a.eval = vs.toArray := by rw [List.map_toArray, ha.evals hx]
  have hrun : (execOp a.eval ⟨none, .call { callee := .value (.func f), args := xs.toArray, argTypes := ats }, ty, pos, af, none⟩).run P w = .ok (.enter f vs.toArray) w := by
    simp only [execOp, resolve, Act.eval, Deferred.ofValue, Sem.run_bind, Sem.run_pure, Result.andThen_ok, invoke, hargs, Array.empty_append, Array.append_empty]
    exact he _ _
  rw [hrun, Oper.upon_enter]
  refine hc.mono ?_
  rintro e w' ⟨v, rfl, hr⟩
  exact hK _ _ (h v w' hr _ ha)
/-- A call of a function value. -/
theorem wl_callv {f : FuncId} {fo : Operand} {first captured : List Value} {xs : List Operand} {vs : List Value} {ats : Array TypeId} {R : Value → World → Prop} (he : Enters P f) (hf : ev l fo = some (.func (.func f) first.toArray captured.toArray)) (hx : evs l xs = some vs) (hn : Nat.ble (d + 1) n = true)
    (hc : Calls P f (first ++ vs ++ captured).toArray w fun e w' => ∃ v, e = .returned v ∧ R v w')
    (h : ∀ v w', R v w' → wl P n ops rest Q ((d, v) :: l) w') : wl P n ops (⟨some d, .call { callee := .value fo, args := xs.toArray, argTypes := ats }, ty, pos, af, none⟩ :: rest) Q l w := fun a ha => by
  refine wpList_plain rfl fun K hK => ?_
  unfold Oper.wp
  have hargs : xs.toArray.map a.eval = vs.toArray := by rw [List.map_toArray, ha.evals hx]
  have hrun : (execOp a.eval ⟨some d, .call { callee := .value fo, args := xs.toArray, argTypes := ats }, ty, pos, af, none⟩).run P w = .ok (.enter f (first ++ vs ++ captured).toArray) w := by
    simp only [execOp, resolve, ha.eval hf, Deferred.ofValue, Sem.run_bind, Sem.run_pure, Result.andThen_ok, invoke, hargs, List.append_toArray]
    exact he _ _
  rw [hrun, Oper.upon_enter]
  refine hc.mono ?_
  rintro e w' ⟨v, rfl, hr⟩
  exact hK _ _ (h v w' hr _ (ha.put hn v))

/-! ### a function's walk -/
/-- What the function's results are, in the frame and the world. -/
def Res (P : Program) (n : Nat) (l : Fr) (w : World) (fn : Func) (v : Value) : Prop := ∀ a, Ag n l a → (results fn a.tmps).run P w = .ok v w
def bodyQ (P : Program) (fn : Func) (R : Value → World → Prop) (n : Nat) : Post
  | .normal, l, w | .ret, l, w => ∃ v, Res P n l w fn v ∧ R v w
  | _, _, _ => False
def argFr : Nat → List Value → Fr
  | _, [] => []
  | i, v :: r => (i, v) :: argFr (i + 1) r
theorem argFr_at : ∀ (vs : List Value) (i t : Nat) (v : Value), lk (argFr i vs) t = some v → i ≤ t ∧ vs[t - i]? = some v
  | [], i, t, v, h => by cases h
  | u :: r, i, t, v, h => by
    unfold argFr at h
    by_cases ht : i = t
    · subst ht
      rw [lk_same] at h
      cases h
      exact ⟨Nat.le_refl _, by simp⟩
    · rw [lk_ne _ _ ht] at h
      obtain ⟨h1, h2⟩ := argFr_at r (i + 1) t v h
      refine ⟨by omega, ?_⟩
      rw [show t - i = (t - (i + 1)) + 1 by omega, List.getElem?_cons_succ]
      exact h2
theorem calls_of {f : FuncId} {fn : Func} {c : Code} {vs : List Value} {R : Value → World → Prop} (hf : P.funcs[f]? = some fn) (hb : fn.body = some c) (hn : fn.ntmps = n) (hsz : Nat.ble vs.length n = true)
    (h : wc P n c (bodyQ P fn R n) (argFr 0 vs) w) : Calls P f vs.toArray w fun e w' => ∃ v, e = .returned v ∧ R v w' := by
  refine calls_of_wp hf hb ?_
  have hle : vs.length ≤ n := Nat.le_of_ble_eq_true hsz
  refine Code.wp_mono ?_ (h _ ⟨rfl, ?_, fun t v hv => ?_⟩)
  · rintro e a w' ⟨l', hl, q⟩
    cases e with
    | normal => obtain ⟨v, hr, hR⟩ := q; exact ⟨hl.nodef, v, hr a hl, v, rfl, hR⟩
    | ret => obtain ⟨v, hr, hR⟩ := q; exact ⟨hl.nodef, v, hr a hl, v, rfl, hR⟩
    | _ => exact q.elim
  · simp only [Array.size_append, Array.size_replicate, List.size_toArray, hn]
    omega
  · obtain ⟨_, h2⟩ := argFr_at vs 0 t v hv
    have hlt : t < vs.length := (List.getElem?_eq_some_iff.1 h2).1
    rw [Array.getElem?_append_left (by simpa using hlt)]
    simpa using h2
theorem res1 {fn : Func} {t : Tmp} (hr : fn.results = #[.tmp t]) (h : lk l t = some v) : Res P n l w fn v := fun a ha => by
  have := ha.at_ t v h
  rw [results_tmp hr, Array.getD_eq_getD_getElem?, this]
  rfl
theorem res2 {fn : Func} {t1 t2 : Tmp} {v1 v2 : Value} (hr : fn.results = #[.tmp t1, .tmp t2]) (h1 : lk l t1 = some v1) (h2 : lk l t2 = some v2) : Res P n l w fn (.tuple #[v1, v2]) := fun a ha => by
  rw [results_tmp2 hr, Array.getD_eq_getD_getElem?, Array.getD_eq_getD_getElem?, ha.at_ _ _ h1, ha.at_ _ _ h2]
  rfl
theorem res0 {fn : Func} (hr : fn.results = #[]) : Res P n l w fn (.tuple #[]) := fun _ _ => results_none hr _ _ _
/-- The first result lies in memory. -/
theorem resc {fn : Func} {t : Tmp} {ty : TypeId} {p : Addr} (hr : fn.results = #[.cell t ty]) (h : lk l t = some (.pointer (some p))) (hv : (loadVar ty p).run P w = .ok v w) : Res P n l w fn v := fun a ha => by
  have h1 := ha.at_ _ _ h
  simp [results, hr, Array.getD_eq_getD_getElem?, h1, asAddr, hv]
theorem resc2 {fn : Func} {t t2 : Tmp} {ty : TypeId} {p : Addr} {v2 : Value} (hr : fn.results = #[.cell t ty, .tmp t2]) (h : lk l t = some (.pointer (some p))) (hv : (loadVar ty p).run P w = .ok v w) (h2 : lk l t2 = some v2) : Res P n l w fn (.tuple #[v, v2]) := fun a ha => by
  have h1 := ha.at_ _ _ h
  have h3 := ha.at_ _ _ h2
  simp [results, hr, Array.getD_eq_getD_getElem?, h1, h3, asAddr, hv]
theorem resc3 {fn : Func} {t t2 : Tmp} {ty ty2 : TypeId} {p p2 : Addr} {v2 : Value} (hr : fn.results = #[.cell t ty, .cell t2 ty2]) (h : lk l t = some (.pointer (some p))) (hv : (loadVar ty p).run P w = .ok v w) (h2 : lk l t2 = some (.pointer (some p2))) (hv2 : (loadVar ty2 p2).run P w = .ok v2 w) : Res P n l w fn (.tuple #[v, v2]) := fun a ha => by
  have h1 := ha.at_ _ _ h
  have h3 := ha.at_ _ _ h2
  simp [results, hr, Array.getD_eq_getD_getElem?, h1, h3, asAddr, hv, hv2]

/-! ### a region of open order whose operations change nothing -/
theorem wpStill_mono' {ops : Array Oper} {w : World} {A B : Act → Prop} (hq : ∀ a, A a → B a) : ∀ (rest : List Oper) (a : Act), wpStill P ops w A rest a → wpStill P ops w B rest a
  | [], a, h => hq a h
  | o :: rest, a, h => by
    unfold wpStill at h ⊢
    split
    · rename_i hw
      rw [if_pos hw] at h
      exact Oper.still_mono (fun a' => wpStill_mono' hq rest a') h
    · rename_i hw
      rw [if_neg hw] at h
      exact wpStill_mono' hq rest _ h
def ws (P : Program) (n : Nat) (ops : Array Oper) (rest : List Oper) (Q : Fr → Prop) (l : Fr) (w : World) : Prop := ∀ a, Ag n l a → wpStill P ops w (fun a' => ∃ l', Ag n l' a' ∧ Q l') rest a
variable {Qs : Fr → Prop}
theorem ws_nil (h : Qs l) : ws P n ops [] Qs l w := fun _ ha => wpStill_nil ⟨l, ha, h⟩
theorem ws_v (hd : o.dst = some d) (hg : o.guard = none) (hn : Nat.ble (d + 1) n = true) (hv : Vs P n l o w v) (h : ws P n ops rest Qs ((d, v) :: l) w) : ws P n ops (o :: rest) Qs l w := fun a ha => by
  unfold wpStill
  rw [if_pos (by simp [Region.wanted, hg])]
  unfold Oper.still
  rw [hv a ha, Oper.stillUpon_value, hd]
  exact h _ (ha.put hn v)
theorem ws_on {dst : Option Tmp} {op : Op} {ty : TypeId} {pos : String} {af : Array Edge} {j dj : Nat} {b : Bool} (hj : (ops[j]?).bind (·.dst) = some dj) (hb : lk l dj = some (.bool b))
    (h : ws P n ops ({ dst := dst, op := op, type := ty, pos := pos, after := af, guard := none } :: rest) Qs l w) : ws P n ops ({ dst := dst, op := op, type := ty, pos := pos, after := af, guard := some (j, b) } :: rest) Qs l w := fun a ha => by
  have h1 := h a ha
  unfold wpStill at h1 ⊢
  rw [if_pos (by simp [Region.wanted, yielded_at ha hj hb])]
  rw [if_pos (by simp [Region.wanted])] at h1
  exact h1
theorem ws_off {dst : Nat} {op : Op} {ty : TypeId} {pos : String} {af : Array Edge} {j dj : Nat} {b b' : Bool} (hj : (ops[j]?).bind (·.dst) = some dj) (hb : lk l dj = some (.bool b')) (hne : b' = !b) (hn : Nat.ble (dst + 1) n = true)
    (h : ws P n ops rest Qs ((dst, undef) :: l) w) : ws P n ops ({ dst := some dst, op := op, type := ty, pos := pos, after := af, guard := some (j, b) } :: rest) Qs l w := fun a ha => by
  unfold wpStill
  rw [if_neg (by simp [Region.wanted, yielded_at ha hj hb, hne])]
  exact h _ (ha.put hn _)
theorem ws_offu {dst : Nat} {op : Op} {ty : TypeId} {pos : String} {af : Array Edge} {j dj : Nat} {b : Bool} (hj : (ops[j]?).bind (·.dst) = some dj) (hb : lk l dj = some undef) (hn : Nat.ble (dst + 1) n = true)
    (h : ws P n ops rest Qs ((dst, undef) :: l) w) : ws P n ops ({ dst := some dst, op := op, type := ty, pos := pos, after := af, guard := some (j, b) } :: rest) Qs l w := fun a ha => by
  unfold wpStill
  rw [if_neg (by simp [Region.wanted, yielded_un ha hj hb])]
  exact h _ (ha.put hn _)
theorem ws_call {f : FuncId} {xs : List Operand} {vs : List Value} {ats : Array TypeId} (he : Enters P f) (hx : evs l xs = some vs) (hn : Nat.ble (d + 1) n = true)
    (hc : Calls P f vs.toArray w fun e w' => e = .returned v ∧ w' = w)
    (h : ws P n ops rest Qs ((d, v) :: l) w) : ws P n ops (⟨some d, .call { callee := .value (.func f), args := xs.toArray, argTypes := ats }, ty, pos, af, none⟩ :: rest) Qs l w := fun a ha => by
  unfold wpStill
  rw [if_pos (by simp [Region.wanted])]
  unfold Oper.still
  have hargs : xs.toArray.map a.eval = vs.toArray := by rw [List.map_toArray, ha.evals hx]
  have hrun : (execOp a.eval ⟨some d, .call { callee := .value (.func f), args := xs.toArray, argTypes := ats }, ty, pos, af, none⟩).run P w = .ok (.enter f vs.toArray) w := by
    simp only [execOp, resolve, Act.eval, Deferred.ofValue, Sem.run_bind, Sem.run_pure, Result.andThen_ok, invoke, hargs, Array.empty_append, Array.append_empty]
    exact he _ _
  rw [hrun]
  exact ⟨rfl, v, hc, h _ (ha.put hn v)⟩
theorem wc_still {id : Nat} {ol : List Oper} (hm : P.follows .mixedOrders = true) (hB : Region.lexB .any ol.toArray = true) (h : ws P n ol.toArray ol (fun l' => Q .normal l' w.drew) l w.drew) : wc P n (.region id ol.toArray true) Q l w := fun a ha =>
  wp_region_still_lit hm hB (by
    have h1 := h a ha
    exact h1)
/-- A still head, then operations in the text's order. -/
theorem wc_tail {id : Nat} {ol : List Oper} (m : Nat) (hm : P.follows .mixedOrders = true) (hB : Region.lexTailB .any ol.toArray m = true) (h : ws P n ol.toArray (ol.take m) (fun l' => wl P n ol.toArray (ol.drop m) Q l' w.drew) l w.drew) : wc P n (.region id ol.toArray true) Q l w := fun a ha =>
  wp_region_still_tail m hm hB (by
    have h1 := h a ha
    refine wpStill_mono' ?_ _ _ h1
    rintro a' ⟨l', hl, q⟩
    exact q a' hl)
end
end Go.Proofs.YtgdemplcpcacaaaFx

/-! The call's own memory as a list of chunks that share no block; what each operation does to it. -/
namespace Go.Proofs.YtgdemplcpcacaaaFx
open Go Go.RowKit

/-- A chunk: what is so of a world, on a set of blocks; it stays so while these stay. -/
structure Ch where
  p : World → (Nat → Prop) → Prop
  st : ∀ {w w' : World} {S : Nat → Prop}, (∀ k, S k → w'.heap[k]? = w.heap[k]?) → p w S → p w' S

def HL : List Ch → World → (Nat → Prop) → Prop
  | [], _, _ => True
  | A :: L, w, S => ∃ S1 S2 : Nat → Prop, (∀ k, S1 k → S k) ∧ (∀ k, S2 k → S k) ∧ (∀ k, S1 k → ¬ S2 k) ∧ A.p w S1 ∧ HL L w S2
theorem HL.mono : ∀ {L : List Ch} {w : World} {S S' : Nat → Prop}, (∀ k, S k → S' k) → HL L w S → HL L w S'
  | [], _, _, _, _, _ => trivial
  | _ :: _, _, _, _, h, ⟨S1, S2, h1, h2, h3, h4, h5⟩ => ⟨S1, S2, fun k hk => h k (h1 k hk), fun k hk => h k (h2 k hk), h3, h4, h5⟩
theorem HL.st : ∀ {L : List Ch} {w w' : World} {S : Nat → Prop}, (∀ k, S k → w'.heap[k]? = w.heap[k]?) → HL L w S → HL L w' S
  | [], _, _, _, _, _ => trivial
  | A :: _, _, _, _, h, ⟨S1, S2, h1, h2, h3, h4, h5⟩ => ⟨S1, S2, h1, h2, h3, A.st (fun k hk => h k (h1 k hk)) h4, HL.st (fun k hk => h k (h2 k hk)) h5⟩
/-- L' is L but for one chunk. -/
inductive Upd : List Ch → Ch → Ch → List Ch → Prop
  | here (A B : Ch) (L : List Ch) : Upd (A :: L) A B (B :: L)
  | there {A B : Ch} {L L' : List Ch} (C : Ch) (h : Upd L A B L') : Upd (C :: L) A B (C :: L')
theorem Upd.swap {L L' : List Ch} {A B : Ch} (U : Upd L A B L') : Upd L' B A L := by
  induction U with
  | here A B L => exact .here B A L
  | there C h ih => exact .there C ih
/-- L' is L without a chunk. -/
inductive Del : List Ch → Ch → List Ch → Prop
  | here (A : Ch) (L : List Ch) : Del (A :: L) A L
  | there {A : Ch} {L L' : List Ch} (C : Ch) (h : Del L A L') : Del (C :: L) A (C :: L')
theorem HL.upd {L L' : List Ch} {A B : Ch} {w : World} (U : Upd L A B L') : ∀ {S : Nat → Prop}, HL L w S → ∃ S1 : Nat → Prop, (∀ k, S1 k → S k) ∧ A.p w S1 ∧
    ∀ (w' : World) (S1' N : Nat → Prop), (∀ k, S k → ¬ S1 k → w'.heap[k]? = w.heap[k]?) → (∀ k, N k → ¬ S k) → (∀ k, S1' k → S1 k ∨ N k) → B.p w' S1' → HL L' w' (fun k => S k ∨ N k) := by
  induction U with
  | here A B L =>
    rintro S ⟨S1, S2, h1, h2, h3, h4, h5⟩
    exact ⟨S1, h1, h4, fun w' S1' N hk hN hs hB => ⟨S1', S2, fun k hk => (hs k hk).imp (h1 k) id, fun k hk => .inl (h2 k hk), fun k hk hk2 => by
      rcases hs k hk with h | h
      · exact h3 k h hk2
      · exact hN k h (h2 k hk2), hB, HL.st (fun k hk2 => hk k (h2 k hk2) (fun h => h3 k h hk2)) h5⟩⟩
  | there C h ih =>
    rintro S ⟨S1, S2, h1, h2, h3, h4, h5⟩
    obtain ⟨T, hT, hA, hstep⟩ := ih h5
    refine ⟨T, fun k hk => h2 k (hT k hk), hA, fun w' S1' N hk hN hs hB => ⟨S1, fun k => S2 k ∨ N k, fun k hk => .inl (h1 k hk), fun k hk => hk.imp (h2 k) id, fun k hk hk2 => ?_, C.st (fun k hk1 => hk k (h1 k hk1) (fun h => h3 k hk1 (hT k h))) h4,
      hstep w' S1' N (fun k hk2 hn => hk k (h2 k hk2) hn) (fun k hn h => hN k hn (h2 k h)) hs hB⟩⟩
    rcases hk2 with h | h
    · exact h3 k hk h
    · exact hN k h (h1 k hk)
theorem HL.del {L L' : List Ch} {A : Ch} {w : World} (D : Del L A L') : ∀ {S : Nat → Prop}, HL L w S → HL (A :: L') w S := by
  induction D with
  | here A L => exact fun h => h
  | there C h ih =>
    rintro S ⟨S1, S2, h1, h2, h3, h4, h5⟩
    obtain ⟨T1, T2, g1, g2, g3, g4, g5⟩ := ih h5
    exact ⟨T1, fun k => S k ∧ ¬ T1 k, fun k hk => h2 k (g1 k hk), fun k hk => hk.1, fun k hk hk2 => hk2.2 hk, g4, S1, T2, fun k hk => ⟨h1 k hk, fun ht => h3 k hk (g1 k ht)⟩, fun k hk => ⟨h2 k (g2 k hk), fun ht => g3 k ht hk⟩, fun k hk hk2 => h3 k hk (g2 k hk2), h4, g5⟩

/-- Since W0 the world has kept what was there; what is new holds the chunks. -/
structure Holds (W0 : World) (L : List Ch) (w : World) : Prop where
  old : Below W0.heap.size W0 w
  hl : HL L w (fun k => W0.heap.size ≤ k ∧ k < w.heap.size)
section
variable {W0 w w' : World} {L L' : List Ch} {A B : Ch}
theorem Holds.start (w : World) : Holds w [] w := ⟨Below.refl _ _, trivial⟩
theorem Holds.size (h : Holds W0 L w) : W0.heap.size ≤ w.heap.size := h.old.size
theorem Holds.below (h : Holds W0 L w) (hb : Below w.heap.size w w') : Holds W0 L w' :=
  ⟨h.old.trans (hb.mono h.size), HL.mono (fun _ hk => ⟨hk.1, Nat.lt_of_lt_of_le hk.2 hb.size⟩) (HL.st (fun k hk => hb.block k hk.2) h.hl)⟩
theorem Holds.drew (h : Holds W0 L w) : Holds W0 L w.drew := h.below (Below.refl _ _).drew
/-- A chunk in what is new. -/
theorem Holds.push' (h : Holds W0 L w) (hb : Below w.heap.size w w') {S : Nat → Prop} (hS : ∀ k, S k → w.heap.size ≤ k ∧ k < w'.heap.size) (hA : A.p w' S) : Holds W0 (A :: L) w' :=
  ⟨h.old.trans (hb.mono h.size), S, fun k => W0.heap.size ≤ k ∧ k < w.heap.size, fun k hk => ⟨Nat.le_trans h.size (hS k hk).1, (hS k hk).2⟩, fun _ hk => ⟨hk.1, Nat.lt_of_lt_of_le hk.2 hb.size⟩, fun k hk hk2 => Nat.lt_irrefl _ (Nat.lt_of_lt_of_le hk2.2 (hS k hk).1), hA, HL.st (fun k hk => hb.block k hk.2) h.hl⟩
theorem Holds.push (h : Holds W0 L w) (hb : Below w.heap.size w w') (hA : A.p w' (fun k => w.heap.size ≤ k ∧ k < w'.heap.size)) : Holds W0 (A :: L) w' := h.push' hb (fun _ hk => hk) hA
/-- What a call left is new. -/
theorem HL.app : ∀ {L1 L2 : List Ch} {w : World} {S1 S2 S : Nat → Prop}, (∀ k, S1 k → S k) → (∀ k, S2 k → S k) → (∀ k, S1 k → ¬ S2 k) → HL L1 w S1 → HL L2 w S2 → HL (L1 ++ L2) w S
  | [], _, _, _, _, _, _, h2, _, _, g => HL.mono h2 g
  | _ :: _, _, _, _, _, _, h1, h2, h3, ⟨T1, T2, a1, a2, a3, a4, a5⟩, g => ⟨T1, fun k => _ ∨ _, fun k hk => h1 k (a1 k hk), fun k hk => hk.elim (fun h => h1 k (a2 k h)) (h2 k), fun k hk hk2 => hk2.elim (a3 k hk) (h3 k (a1 k hk)), a4, HL.app (fun k hk => .inl hk) (fun k hk => .inr hk) (fun k hk => h3 k (a2 k hk)) a5 g⟩
theorem Holds.call {C : List Ch} (h : Holds W0 L w) (hc : Holds w C w') : Holds W0 (C ++ L) w' :=
  ⟨h.old.trans (hc.old.mono h.size), HL.app (fun k hk => ⟨Nat.le_trans h.size hk.1, hk.2⟩) (fun k hk => ⟨hk.1, Nat.lt_of_lt_of_le hk.2 hc.old.size⟩) (fun k hk hk2 => Nat.lt_irrefl _ (Nat.lt_of_lt_of_le hk2.2 hk.1)) hc.hl (HL.st (fun k hk => hc.old.block k hk.2) h.hl)⟩
theorem Holds.pure (h : Holds W0 L w) (hA : A.p w (fun _ => False)) : Holds W0 (A :: L) w :=
  ⟨h.old, fun _ => False, _, fun _ hk => hk.elim, fun _ hk => hk, fun _ hk => hk.elim, hA, h.hl⟩
theorem Holds.upd (U : Upd L A B L') (h : Holds W0 L w) : ∃ S : Nat → Prop, (∀ k, S k → W0.heap.size ≤ k ∧ k < w.heap.size) ∧ A.p w S ∧
    ∀ (w' : World) (S' : Nat → Prop), w'.os = w.os → w'.tape = w.tape → w'.output = w.output → w.heap.size ≤ w'.heap.size → (∀ k, k < w.heap.size → ¬ S k → w'.heap[k]? = w.heap[k]?) → (∀ k, S' k → S k ∨ (w.heap.size ≤ k ∧ k < w'.heap.size)) → B.p w' S' → Holds W0 L' w' := by
  obtain ⟨S, hS, hA, hstep⟩ := HL.upd U h.hl
  refine ⟨S, hS, hA, fun w' S' e1 e2 e3 hsz hk hs hB => ⟨h.old.trans ⟨e1, e2, e3, hsz, fun k hk0 => hk k (Nat.lt_of_lt_of_le hk0 h.size) (fun hSk => Nat.lt_irrefl _ (Nat.lt_of_lt_of_le hk0 (hS k hSk).1))⟩, ?_⟩⟩
  refine HL.mono ?_ (hstep w' S' (fun k => w.heap.size ≤ k ∧ k < w'.heap.size) (fun k hkS hn => hk k hkS.2 hn) (fun k hN hkS => Nat.lt_irrefl _ (Nat.lt_of_lt_of_le hkS.2 hN.1)) hs hB)
  rintro k (hk | hk)
  · exact ⟨hk.1, Nat.lt_of_lt_of_le hk.2 hsz⟩
  · exact ⟨Nat.le_trans h.size hk.1, hk.2⟩
theorem Holds.get (U : Upd L A A L) (h : Holds W0 L w) : ∃ S : Nat → Prop, (∀ k, S k → W0.heap.size ≤ k ∧ k < w.heap.size) ∧ A.p w S :=
  let ⟨S, hS, hA, _⟩ := h.upd U; ⟨S, hS, hA⟩
theorem Holds.turn (D : Del L A L') (h : Holds W0 L w) : Holds W0 (A :: L') w := ⟨h.old, HL.del D h.hl⟩
theorem Holds.tail (h : Holds W0 (A :: L) w) : Holds W0 L w := by
  obtain ⟨ho, S1, S2, _, h2, _, _, h5⟩ := h
  exact ⟨ho, HL.mono h2 h5⟩
theorem Holds.drop (D : Del L A L') (h : Holds W0 L w) : Holds W0 L' w := (h.turn D).tail
/-- The first two chunks are one. -/
theorem Holds.merge {C : Ch} (hm : ∀ S1 S2 : Nat → Prop, (∀ k, S1 k → ¬ S2 k) → A.p w S1 → B.p w S2 → C.p w (fun k => S1 k ∨ S2 k)) (h : Holds W0 (A :: B :: L) w) : Holds W0 (C :: L) w := by
  obtain ⟨ho, S1, S2, h1, h2, h3, h4, T1, T2, g1, g2, g3, g4, g5⟩ := h
  exact ⟨ho, fun k => S1 k ∨ T1 k, T2, fun k hk => hk.elim (h1 k) (fun h => h2 k (g1 k h)), fun k hk => h2 k (g2 k hk), fun k hk hk2 => hk.elim (fun h => h3 k h (g2 k hk2)) (fun h => g3 k h hk2), hm S1 T1 (fun k hk hk2 => h3 k hk (g1 k hk2)) h4 g4, g5⟩
theorem Holds.head_imp (hm : ∀ S, A.p w S → B.p w S) (h : Holds W0 (A :: L) w) : Holds W0 (B :: L) w := by
  obtain ⟨ho, S1, S2, h1, h2, h3, h4, h5⟩ := h
  exact ⟨ho, S1, S2, h1, h2, h3, hm _ h4, h5⟩
theorem Holds.imp (U : Upd L A B L') (h : Holds W0 L w) (hm : ∀ S, A.p w S → B.p w S) : Holds W0 L' w := by
  obtain ⟨S, hS, hA, hstep⟩ := h.upd U
  exact hstep w S rfl rfl rfl (Nat.le_refl _) (fun _ _ _ => rfl) (fun _ hk => .inl hk) (hm S hA)
/-- Old memory. -/
theorem Holds.cell (h : Holds W0 L w) {p : Addr} {v : Value} (hc : W0.cell? p = some v) : w.cell? p = some v := (h.old.cell (World.block_lt_of_cell? W0 p hc)).trans hc
end

/-! ### chunks -/
/-- A block known whole. -/
def Blk (b : Nat) (t : TypeId) (cs : List Value) : Ch where
  p := fun w S => S b ∧ w.heap[b]? = some (.cells cs.toArray t (0, 0))
  st := fun h hp => ⟨hp.1, (h b hp.1).trans hp.2⟩
/-- A row of the call's own: n elements of size cells each. -/
def Raw (e : TypeId) (size : Nat) (v : Value) (n : Nat) (xs : List Value) : Ch where
  p := fun w S => (∀ k, v.ownBlock = some k → S k) ∧ w.ownsRow 0 e size v n xs
  st := fun h hp => ⟨hp.1, by
    obtain ⟨h1, h2⟩ := hp.2
    refine ⟨h1, ?_⟩
    rcases h2 with h2 | ⟨g, cap, cur, rfl, hg, hh, r⟩
    · exact .inl h2
    · exact .inr ⟨g, cap, cur, rfl, hg, (h g (hp.1 g (by simp [Value.ownBlock]))).trans hh, r⟩⟩
theorem blk_alloc (w : World) (t : TypeId) (cs : Array Value) : (w.alloc (.cells cs t)).heap[w.heap.size]? = some (.cells cs t (0, 0)) := by
  show (w.heap.push _)[w.heap.size]? = _
  simp
theorem below_alloc' (w : World) (o : Obj) : Below w.heap.size w (w.alloc o) := (Below.refl _ _).alloc (Nat.le_refl _) o
theorem Holds.alloc {W0 w : World} {L : List Ch} (h : Holds W0 L w) (t : TypeId) (cs : List Value) : Holds W0 (Blk w.heap.size t cs :: L) (w.alloc (.cells cs.toArray t)) :=
  h.push (below_alloc' w _) ⟨⟨Nat.le_refl _, by simp⟩, blk_alloc w t cs.toArray⟩

section
variable {P : Program} {n : Nat} {Q : Post} {l : Fr} {w W0 : World} {L L' : List Ch} {ops : Array Oper} {rest : List Oper} {d : Nat} {x y : Operand} {ty t : TypeId} {pos : String} {af : Array Edge} {v : Value}
/-- A value's cells. -/
theorem wl_alloc {z : Value} {cs : List Value} (H : Holds W0 L w) (hn : Nat.ble (d + 1) n = true) (hz : ∀ W, (zeroValue t).run P W = .ok z W) (hc : z.cells = cs.toArray)
    (h : ∀ b w', w.heap.size ≤ b → Holds W0 (Blk b t cs :: L) w' → wl P n ops rest Q ((d, .pointer (some ⟨b, 0, none⟩)) :: l) w') : wl P n ops (⟨some d, .alloc t, ty, pos, af, none⟩ :: rest) Q l w :=
  wl_v rfl rfl hn (w' := w.alloc (.cells cs.toArray t)) (v := .pointer (some ⟨w.heap.size, 0, none⟩)) (fun a _ => by
    simp [execOp, Instr.alloc, hz, newVar, newRow, hc]) (h _ _ (Nat.le_refl _) (H.alloc t cs))
theorem wl_box {cs : List Value} (H : Holds W0 L w) (hn : Nat.ble (d + 1) n = true) (hx : ev l x = some v) (hc : v.cells = cs.toArray)
    (h : ∀ b w', w.heap.size ≤ b → Holds W0 (Blk b t cs :: L) w' → wl P n ops rest Q ((d, .pointer (some ⟨b, 0, none⟩)) :: l) w') : wl P n ops (⟨some d, .box t x, ty, pos, af, none⟩ :: rest) Q l w :=
  wl_v rfl rfl hn (w' := w.alloc (.cells cs.toArray t)) (v := .pointer (some ⟨w.heap.size, 0, none⟩)) (fun a ha => by
    simp [execOp, Instr.box, newVar, newRow, ha.eval hx, hc]) (h _ _ (Nat.le_refl _) (H.alloc t cs))

/-! ### what a type's variables are: one cell, or a struct's cells -/
structure One (P : Program) (t : TypeId) : Prop where
  agg : ∀ W, (isAgg t).run P W = .ok false W
  size : ∀ W, (sizeOf t).run P W = .ok 1 W
structure Agg (P : Program) (t : TypeId) (k : Nat) : Prop where
  agg : ∀ W, (isAgg t).run P W = .ok true W
  size : ∀ W, (sizeOf t).run P W = .ok k W
theorem one_of {t : TypeId} {ds : TypeDesc} (hu : P.underlying t = some ds) (hd : (match ds with | .struct _ | .array _ _ => true | _ => false) = false) (hi : (P.info? t).map (·.size) = some 1) : One P t := by
  obtain ⟨i, hi1, hi2⟩ := Option.map_eq_some_iff.1 hi
  refine ⟨fun W => ?_, fun W => ?_⟩
  · simp only [isAgg, Sem.run_bind, run_underlying hu, Result.andThen_ok]
    cases ds <;> first | rfl | (simp at hd)
  · simp [sizeOf, typeInfo, hi1, hi2]
theorem agg_of {t : TypeId} {fs : Array Field} {k : Nat} (hu : P.underlying t = some (.struct fs)) (hi : (P.info? t).map (·.size) = some k) : Agg P t k := by
  obtain ⟨i, hi1, hi2⟩ := Option.map_eq_some_iff.1 hi
  refine ⟨fun W => ?_, fun W => ?_⟩
  · simp only [isAgg, Sem.run_bind, run_underlying hu, Result.andThen_ok]
    rfl
  · simp [sizeOf, typeInfo, hi1, hi2]
theorem zero_of {t : TypeId} {z : Value} (hi : (P.info? t).map (·.zero) = some (some z)) : ∀ W, (zeroValue t).run P W = .ok z W := fun W => by
  obtain ⟨i, hi1, hi2⟩ := Option.map_eq_some_iff.1 hi
  simp [zeroValue, typeInfo, hi1, hi2]

/-! ### loads -/
variable {p : Addr} {b off k : Nat} {cs cs' : List Value}
theorem v_load (hc : One P t) (hx : ev l x = some (.pointer (some p))) (hcell : w.cell? p = some v) : Vs P n l ⟨some d, .load t x, ty, pos, af, none⟩ w v := fun a ha => by
  simp [execOp, ha.eval hx, Instr.loadAt, Instr.sureAddr, loadVar, hc.agg, hcell, load, Sem.run]
theorem run_loadVarN (hc : Agg P t k) (hl : cs.length = k) (hcells : ∀ j v, cs[j]? = some v → w.cell? (p.add j) = some v) : (loadVar t p).run P w = .ok (.agg cs.toArray) w := by
  subst hl
  simp [loadVar, hc.agg, hc.size, run_loadCells_list w p cs hcells]
theorem run_loadVar1 (hc : One P t) (hcell : w.cell? p = some v) : (loadVar t p).run P w = .ok v w := by
  simp [loadVar, hc.agg, hcell, load, Sem.run]
theorem v_loadN (hc : Agg P t k) (hx : ev l x = some (.pointer (some p))) (hl : cs.length = k) (hcells : ∀ j v, cs[j]? = some v → w.cell? (p.add j) = some v) : Vs P n l ⟨some d, .load t x, ty, pos, af, none⟩ w (.agg cs.toArray) := fun a ha => by
  simp [execOp, ha.eval hx, Instr.loadAt, Instr.sureAddr, run_loadVarN hc hl hcells]
theorem cell_blk (h : w.heap[b]? = some (.cells cs.toArray t (0, 0))) (j : Nat) : w.cell? ⟨b, j, none⟩ = cs[j]? := by
  simp [World.cell?, h]
theorem Holds.blk (H : Holds W0 L w) (U : Upd L (Blk b t cs) (Blk b t cs) L) : w.heap[b]? = some (.cells cs.toArray t (0, 0)) := by
  obtain ⟨_, _, _, h⟩ := H.get U
  exact h
theorem Holds.at (H : Holds W0 L w) (U : Upd L (Blk b t cs) (Blk b t cs) L) (hv : cs[off]? = some v) : w.cell? ⟨b, off, none⟩ = some v := by rw [cell_blk (H.blk U), hv]
theorem Holds.ats (H : Holds W0 L w) (U : Upd L (Blk b t cs) (Blk b t cs) L) : ∀ j v, cs[j]? = some v → w.cell? ((⟨b, 0, none⟩ : Addr).add j) = some v := fun j v hv => by
  rw [Addr.add_lit, Nat.zero_add]
  exact H.at U hv
theorem cut_eq : ∀ {cs cs' : List Value} {off k : Nat}, (cs.drop off).take k = cs' → ∀ j v, cs'[j]? = some v → cs[off + j]? = some v := fun h j v hv => by
  subst h
  rw [List.getElem?_take] at hv
  split at hv
  · rwa [List.getElem?_drop] at hv
  · cases hv
/-- A struct inside a block. -/
theorem Holds.atsN (H : Holds W0 L w) (U : Upd L (Blk b t cs) (Blk b t cs) L) (hcut : (cs.drop off).take k = cs') : ∀ j v, cs'[j]? = some v → w.cell? ((⟨b, off, none⟩ : Addr).add j) = some v := fun j v hv => by
  rw [Addr.add_lit]
  exact H.at U (cut_eq hcut j v hv)

/-! ### stores into a block -/
/-- cs' is cs with vs from off on. -/
inductive Put : List Value → Nat → List Value → List Value → Prop
  | nil (cs : List Value) : Put cs 0 [] cs
  | here {c : Value} {cs vs cs' : List Value} (v : Value) (h : Put cs 0 vs cs') : Put (c :: cs) 0 (v :: vs) (v :: cs')
  | there {c : Value} {cs vs cs' : List Value} {off : Nat} (h : Put cs off vs cs') : Put (c :: cs) (off + 1) vs (c :: cs')
theorem Put.first {cs vs cs' : List Value} {off : Nat} {v : Value} (h : Put cs off (v :: vs) cs') : off < cs.length ∧ Put (cs.set off v) (off + 1) vs cs' := by
  generalize hvs : v :: vs = ws at h
  induction h with
  | nil => cases hvs
  | here u h => cases hvs; exact ⟨by simp, .there h⟩
  | there h ih =>
    obtain ⟨h1, h2⟩ := ih hvs
    exact ⟨by simpa using h1, .there h2⟩
theorem Put.last {cs cs' : List Value} {off : Nat} (h : Put cs off [] cs') : cs' = cs := by
  generalize hvs : ([] : List Value) = ws at h
  induction h with
  | nil => rfl
  | here u h => cases hvs
  | there h ih => rw [ih hvs]
theorem run_storeCells_blk : ∀ (vs : List Value) (i : Nat) (w : World) (cs cs' : List Value), w.heap[b]? = some (.cells cs.toArray t (0, 0)) → Put cs (off + i) vs cs' → (∀ u ∈ vs, u.oneCell' = true) →
    ∃ w', (storeCells ⟨b, off, none⟩ vs i).run P w = .ok () w' ∧ w'.heap[b]? = some (.cells cs'.toArray t (0, 0)) ∧ (∀ k, k ≠ b → w'.heap[k]? = w.heap[k]?) ∧ w'.heap.size = w.heap.size ∧ w'.os = w.os ∧ w'.tape = w.tape ∧ w'.output = w.output
  | [], i, w, cs, cs', hb, hp, _ => ⟨w, by simp [storeCells], by rw [hp.last]; exact hb, fun _ _ => rfl, rfl, rfl, rfl, rfl⟩
  | v :: vs, i, w, cs, cs', hb, hp, h1 => by
    obtain ⟨hlt, hp'⟩ := hp.first
    have hcell : w.cell? ⟨b, off + i, none⟩ = cs[off + i]? := cell_blk hb _
    rw [List.getElem?_eq_getElem hlt] at hcell
    have hfr : w.frozen? ⟨b, off + i, none⟩ = false := by simp [World.frozen?, hb]
    have hb' : (w.setCell ⟨b, off + i, none⟩ v).heap[b]? = some (.cells (cs.set (off + i) v).toArray t (0, 0)) := by simp [World.setCell, Array.getElem?_modify, hb]
    obtain ⟨w', hr, g1, g2, g3, g4, g5, g6⟩ := run_storeCells_blk vs (i + 1) _ _ cs' hb' (by rw [← Nat.add_assoc]; exact hp') (fun u hu => h1 u (List.mem_cons_of_mem _ hu))
    refine ⟨w', ?_, g1, fun k hk => (g2 k hk).trans (Below.heap_setCell w ⟨b, off + i, none⟩ v k hk), by rw [g3]; simp, g4, g5, g6⟩
    simp only [storeCells, Sem.run_bind, Addr.add_lit, run_store P w _ v .plain (h1 v List.mem_cons_self), hcell, hfr, Bool.false_eq_true, if_false, Result.andThen_ok]
    exact hr
theorem wl_store {vs : List Value} (H : Holds W0 L w) (U : Upd L (Blk b t cs) (Blk b t cs') L') {tv : TypeId} (hsz : ∀ W, (sizeOf tv).run P W = .ok k W) (hx : ev l x = some (.pointer (some ⟨b, off, none⟩))) (hy : ev l y = some v) (hc : v.cells = vs.toArray) (hk : vs.length = k) (h1 : vs.all Value.oneCell' = true)
    (hp : Put cs off vs cs') (h : ∀ w', Holds W0 L' w' → w.heap.size ≤ w'.heap.size → wl P n ops rest Q l w') : wl P n ops (⟨none, .store tv x y, ty, pos, af, none⟩ :: rest) Q l w := by
  obtain ⟨S, hS, ⟨hSb, hb⟩, hstep⟩ := H.upd U
  obtain ⟨w', hr, g1, g2, g3, g4, g5, g6⟩ := run_storeCells_blk (P := P) (t := t) (off := off) vs 0 w cs cs' hb hp (fun u hu => List.all_eq_true.1 h1 u hu)
  refine wl_s (w' := w') rfl rfl (fun a ha => ?_) (h w' (hstep w' S g4 g5 g6 (by omega) (fun k hk hn => g2 k (fun e => hn (e ▸ hSb))) (fun k hk => .inl hk) ⟨hSb, g1⟩) (by omega))
  simp [execOp, ha.eval hx, ha.eval hy, Instr.storeAt, Instr.sureAddr, storeVar, hsz, hc, hk, hr]
end
end Go.Proofs.YtgdemplcpcacaaaFx

/-! Rows that are read, rows of the call's own; what operations do with them. -/
namespace Go.Proofs.YtgdemplcpcacaaaFx
open Go Go.RowKit

def adr : Option Addr → Addr
  | some a => a
  | none => ⟨0, 0, none⟩
theorem add_add (a : Addr) (i j : Nat) : (a.add i).add j = a.add (i + j) := by
  unfold Addr.add
  by_cases hi : i = 0 <;> by_cases hj : j = 0 <;> simp [hi, hj, Nat.add_assoc]

/-- A kind of elements: what an element's cells are, in a world. -/
structure Kn (α : Type) where
  sz : Nat
  K : World → α → List Value → Prop
  len : ∀ {w : World} {x : α} {cs : List Value}, K w x cs → cs.length = sz
  one : ∀ {w : World} {x : α} {cs : List Value}, K w x cs → ∀ u ∈ cs, u.oneCell' = true
  st : ∀ {w w' : World} {x : α} {cs : List Value}, Below w.heap.size w w' → K w x cs → K w' x cs

/-- The slice at A reads as xs. -/
structure Rd {α : Type} (d : Kn α) (w : World) (A : Option Addr) (xs : List α) : Prop where
  ad : 0 < xs.length → A = some (adr A)
  el : ∀ j x, xs[j]? = some x → ∃ cs, d.K w x cs ∧ ∀ i u, cs[i]? = some u → w.cell? ((adr A).add (j * d.sz + i)) = some u
theorem cell_below {w w' : World} (h : Below w.heap.size w w') {a : Addr} {v : Value} (hc : w.cell? a = some v) : w'.cell? a = some v := (h.cell (World.block_lt_of_cell? w a hc)).trans hc
section
variable {α : Type} {d : Kn α} {w w' : World} {A : Option Addr} {xs : List α}
theorem Rd.below (h : Rd d w A xs) (hb : Below w.heap.size w w') : Rd d w' A xs :=
  ⟨h.ad, fun j x hx => by
    obtain ⟨cs, hK, hc⟩ := h.el j x hx
    exact ⟨cs, d.st hb hK, fun i u hu => cell_below hb (hc i u hu)⟩⟩
theorem Rd.nil (d : Kn α) (w : World) (A : Option Addr) : Rd d w A [] := ⟨fun h => absurd h (by simp), fun j x hx => by simp at hx⟩
/-- Element i, its cells. -/
theorem Rd.get (h : Rd d w A xs) (z : α) {i : Int} (h0 : 0 ≤ i) (h1 : i < xs.length) : ∃ cs, d.K w (xs.getD i.toNat z) cs ∧ ∀ k u, cs[k]? = some u → w.cell? (((adr A).add (i.toNat * d.sz)).add k) = some u := by
  have hl : i.toNat < xs.length := by omega
  obtain ⟨cs, hK, hc⟩ := h.el i.toNat _ (List.getElem?_eq_getElem hl)
  refine ⟨cs, ?_, fun k u hu => by rw [add_add]; exact hc k u hu⟩
  rw [List.getD_eq_getElem?_getD, List.getElem?_eq_getElem hl]
  exact hK
theorem Rd.cells (h : Rd d w A xs) : ∃ css : List (List Value), css.length = xs.length ∧ (∀ (j : Nat) (x : α), xs[j]? = some x → ∃ cs, css[j]? = some cs ∧ d.K w x cs) ∧ ∀ (i : Nat) (u : Value), css.flatten[i]? = some u → w.cell? ((adr A).add i) = some u := by
  obtain ⟨hA, hel⟩ := h
  clear hA
  generalize ha : adr A = ad at hel
  clear ha
  induction xs generalizing ad with
  | nil => exact ⟨[], rfl, fun j x hx => by simp at hx, fun i u hu => by simp at hu⟩
  | cons x r ih =>
    obtain ⟨cs, hK, hc⟩ := hel 0 x rfl
    obtain ⟨css, h1, h2, h3⟩ := ih (ad.add d.sz) (fun j y hy => by
      obtain ⟨c, hk, hcc⟩ := hel (j + 1) y (by simpa using hy)
      refine ⟨c, hk, fun i u hu => ?_⟩
      rw [add_add, show d.sz + (j * d.sz + i) = (j + 1) * d.sz + i by rw [Nat.add_mul, Nat.one_mul]; omega]
      exact hcc i u hu)
    refine ⟨cs :: css, by simp [h1], fun j y hy => ?_, fun i u hu => ?_⟩
    · cases j with
      | zero => exact ⟨cs, rfl, by simp at hy; subst hy; exact hK⟩
      | succ j => exact h2 j y (by simpa using hy)
    · rw [List.flatten_cons] at hu
      have hl := d.len hK
      rcases Nat.lt_or_ge i cs.length with hi | hi
      · rw [List.getElem?_append_left hi] at hu
        have := hc i u hu
        rwa [Nat.zero_mul, Nat.zero_add] at this
      · rw [List.getElem?_append_right hi] at hu
        have := h3 _ u hu
        rwa [add_add, show d.sz + (i - cs.length) = i by omega] at this
end

/-- Flat elements: their cells are given by the element alone. -/
structure Fk (α : Type) where
  sz : Nat
  enc : α → List Value
  len : ∀ x, (enc x).length = sz
  one : ∀ x, ∀ u ∈ enc x, u.oneCell' = true
def Fk.kn {α : Type} (f : Fk α) : Kn α where
  sz := f.sz
  K := fun _ x cs => cs = f.enc x
  len := fun h => by rw [h, f.len]
  one := fun h => by rw [h]; exact f.one _
  st := fun _ h => h
def fInt (k : IntKind) : Fk Int := ⟨1, fun x => [.int k x], fun _ => rfl, fun _ u hu => by rw [List.mem_singleton.1 hu]; rfl⟩
def fBool : Fk Bool := ⟨1, fun x => [.bool x], fun _ => rfl, fun _ u hu => by rw [List.mem_singleton.1 hu]; rfl⟩
def fStr : Fk ByteArray := ⟨1, fun x => [.string x], fun _ => rfl, fun _ u hu => by rw [List.mem_singleton.1 hu]; rfl⟩
abbrev kInt (k : IntKind) : Kn Int := (fInt k).kn
abbrev kStr : Kn ByteArray := fStr.kn
abbrev kBool : Kn Bool := fBool.kn
/-- Slices as elements. -/
def Kn.sl {α : Type} (d : Kn α) : Kn (List α) where
  sz := 1
  K := fun w xs cs => ∃ A c, cs = [.slice A xs.length c] ∧ xs.length ≤ c ∧ Rd d w A xs
  len := fun ⟨_, _, h, _⟩ => by rw [h]; rfl
  one := fun ⟨_, _, h, _⟩ u hu => by rw [h] at hu; rw [List.mem_singleton.1 hu]; rfl
  st := fun hb ⟨A, c, h, hl, hr⟩ => ⟨A, c, h, hl, hr.below hb⟩

section
variable {α : Type} {f : Fk α} {d : Kn α} {w w' W0 : World} {A : Option Addr} {xs : List α} {L L' : List Ch} {i : Int}
theorem flat_len (f : Fk α) (xs : List α) : (xs.flatMap f.enc).length = xs.length * f.sz := by
  induction xs with
  | nil => simp
  | cons x r ih => rw [List.flatMap_cons, List.length_append, f.len, ih, List.length_cons, Nat.add_mul, Nat.one_mul, Nat.add_comm]
theorem flat_get (f : Fk α) : ∀ (xs : List α) (j : Nat) (x : α), xs[j]? = some x → ∀ i u, (f.enc x)[i]? = some u → (xs.flatMap f.enc)[j * f.sz + i]? = some u
  | [], j, x, hx, _, _, _ => by simp at hx
  | y :: r, 0, x, hx, i, u, hu => by
    simp at hx
    subst hx
    rw [List.flatMap_cons, Nat.zero_mul, Nat.zero_add, List.getElem?_append_left (List.getElem?_eq_some_iff.1 hu).1]
    exact hu
  | y :: r, j + 1, x, hx, i, u, hu => by
    rw [List.flatMap_cons, List.getElem?_append_right (by rw [f.len, Nat.add_mul]; omega), f.len, show (j + 1) * f.sz + i - f.sz = j * f.sz + i by rw [Nat.add_mul]; omega]
    exact flat_get f r j x (by simpa using hx) i u hu
theorem flat_set (f : Fk α) : ∀ (xs : List α) (j k : Nat) (x : α) (u : Value), j < xs.length → k < f.sz → (f.enc (xs.getD j x)).set k u = f.enc x → (xs.flatMap f.enc).set (j * f.sz + k) u = (xs.set j x).flatMap f.enc
  | [], j, _, _, _, hj, _, _ => by simp at hj
  | y :: r, 0, k, x, u, _, hk, he => by
    simp only [List.getD_cons_zero] at he
    rw [List.flatMap_cons, Nat.zero_mul, Nat.zero_add, List.set_append_left _ _ (by rw [f.len]; exact hk), he, List.set_cons_zero, List.flatMap_cons]
  | y :: r, j + 1, k, x, u, hj, hk, he => by
    rw [List.flatMap_cons, List.set_append_right _ _ (by rw [f.len, Nat.add_mul]; omega), f.len, show (j + 1) * f.sz + k - f.sz = j * f.sz + k by rw [Nat.add_mul]; omega, flat_set f r j k x u (by simpa using hj) hk (by simpa using he), List.set_cons_succ, List.flatMap_cons]
/-- A flat element's cell, by its place. -/
theorem Rd.at (h : Rd f.kn w A xs) (z : α) (h0 : 0 ≤ i) (h1 : i < xs.length) {k : Nat} {u : Value} (hu : (f.enc (xs.getD i.toNat z))[k]? = some u) : w.cell? (((adr A).add (i.toNat * f.sz)).add k) = some u := by
  obtain ⟨cs, rfl, hc⟩ := h.get z h0 h1
  exact hc k u hu
theorem Rd.at1 {k : IntKind} {xs : List Int} (h : Rd (kInt k) w A xs) (h0 : 0 ≤ i) (h1 : i < xs.length) : w.cell? ((adr A).add (i.toNat * 1)) = some (.int k (xs.getD i.toNat 0)) := by
  have := Rd.at (k := 0) h 0 h0 h1 rfl
  rwa [add_add] at this
theorem Rd.at1s {xs : List ByteArray} (h : Rd kStr w A xs) (h0 : 0 ≤ i) (h1 : i < xs.length) : w.cell? ((adr A).add (i.toNat * 1)) = some (.string (xs.getD i.toNat ByteArray.empty)) := by
  have := Rd.at (k := 0) h ByteArray.empty h0 h1 rfl
  rwa [add_add] at this
theorem Rd.at1b {xs : List Bool} (h : Rd kBool w A xs) (h0 : 0 ≤ i) (h1 : i < xs.length) : w.cell? ((adr A).add (i.toNat * 1)) = some (.bool (xs.getD i.toNat false)) := by
  have := Rd.at (k := 0) h false h0 h1 rfl
  rwa [add_add] at this
/-- An element that is a slice. -/
theorem Rd.atSl {xs : List (List α)} (h : Rd d.sl w A xs) (h0 : 0 ≤ i) (h1 : i < xs.length) : ∃ B c, w.cell? ((adr A).add (i.toNat * 1)) = some (.slice B (xs.getD i.toNat []).length c) ∧ (xs.getD i.toNat []).length ≤ c ∧ Rd d w B (xs.getD i.toNat []) := by
  obtain ⟨cs, ⟨B, c, rfl, hl, hr⟩, hc⟩ := h.get [] h0 h1
  refine ⟨B, c, ?_, hl, hr⟩
  have := hc 0 _ rfl
  rwa [add_add] at this

/-! ### rows of the call's own -/
theorem Holds.nilrow (H : Holds W0 L w) (e size : Nat) : Holds W0 (Raw e size (.slice none 0 0) 0 [] :: L) w := H.pure ⟨fun k hk => by simp [Value.ownBlock] at hk, by simp, .inl ⟨rfl, rfl⟩⟩
theorem Holds.raw {e size n : Nat} {v : Value} {cs : List Value} (H : Holds W0 L w) (U : Upd L (Raw e size v n cs) (Raw e size v n cs) L) : w.ownsRow 0 e size v n cs := by
  obtain ⟨_, _, _, h⟩ := H.get U
  exact h
theorem own_slice {e size n : Nat} {v : Value} {cs : List Value} (h : w.ownsRow 0 e size v n cs) : ∃ A c, v = .slice A n c ∧ n ≤ c ∧ (0 < n → A = some (adr A)) ∧ ∀ j u, cs[j]? = some u → w.cell? ((adr A).add j) = some u := by
  rcases h.2 with ⟨rfl, rfl⟩ | ⟨g, cap, cur, rfl, _, _, hn, _⟩
  · refine ⟨none, 0, rfl, Nat.le_refl _, fun h => absurd h (by simp), fun j u hu => ?_⟩
    have := h.1
    rw [Nat.zero_mul] at this
    rw [List.eq_nil_of_length_eq_zero this] at hu
    simp at hu
  · exact ⟨_, cap, rfl, hn, fun _ => rfl, fun j u hu => h.cells (g := g) rfl j u hu⟩
theorem own_max {e size n : Nat} {v : Value} {cs : List Value} (h : w.ownsRow 0 e size v n cs) : n ≤ maxLen := by
  rcases h.2 with ⟨rfl, rfl⟩ | ⟨g, cap, cur, rfl, _, _, hn, hm, _⟩
  · exact Nat.zero_le _
  · exact Nat.le_trans hn hm
/-- A row of flat elements, of the call's own. -/
abbrev Row (f : Fk α) (e : TypeId) (v : Value) (xs : List α) : Ch := Raw e f.sz v xs.length (xs.flatMap f.enc)
theorem rd_of_own {e : Nat} {n c : Nat} (h : w.ownsRow 0 e f.sz (.slice A n c) xs.length (xs.flatMap f.enc)) : n = xs.length ∧ xs.length ≤ c ∧ Rd f.kn w A xs := by
  obtain ⟨A', c', hv, hn, hA, hc⟩ := own_slice h
  injection hv with h1 h2 h3
  subst h1 h2 h3
  exact ⟨rfl, hn, hA, fun j x hx => ⟨f.enc x, rfl, fun i u hu => hc _ _ (flat_get f xs j x hx i u hu)⟩⟩
/-- Its slice, as it is read. -/
theorem Holds.row {e : Nat} {v : Value} (H : Holds W0 L w) (U : Upd L (Row f e v xs) (Row f e v xs) L) : ∃ A c, v = .slice A xs.length c ∧ xs.length ≤ c ∧ Rd f.kn w A xs := by
  have h := H.raw U
  obtain ⟨A, c, rfl, hn, hA, hc⟩ := own_slice h
  exact ⟨A, c, rfl, hn, (rd_of_own h).2.2⟩
end

section
variable {P : Program} {n : Nat} {Q : Post} {l : Fr} {w W0 : World} {L : List Ch} {ops : Array Oper} {rest : List Oper} {d : Nat} {x y : Operand} {ty t : TypeId} {pos : String} {af : Array Edge} {v : Value} {i : Int}
theorem v_idx {A : Option Addr} {m c e sz : Nat} {k : IntKind} (ht : P.underlying t = some (.slice e)) (hsz : ∀ W, (sizeOf e).run P W = .ok sz W) (hA : 0 < m → A = some (adr A)) (hx : ev l x = some (.slice A m c)) (hy : ev l y = some (.int k i)) (h0 : 0 ≤ i) (h1 : i < m) :
    Vs P n l ⟨some d, .indexAddr t x y, ty, pos, af, none⟩ w (.pointer (some ((adr A).add (i.toNat * sz)))) := by
  rw [hA (by omega)] at hx
  exact v_index ht hsz hx hy h0 h1
/-- A field of what lies in another row. -/
theorem v_fld {s : TypeId} {fs : Array Field} {f : Nat} {fd : Field} {sz : Nat} {p : Addr} (hs : P.underlying s = some (.struct fs)) (hf : fs[f]? = some fd) (hsz : ∀ W, (sizeOf fd.type).run P W = .ok sz W) (hp : 0 < sz) (hx : ev l x = some (.pointer (some p))) :
    Vs P n l ⟨some d, .fieldAddr s x f, ty, pos, af, none⟩ w (.pointer (some (p.add fd.offset))) := fun a ha => by
  have : sz ≠ 0 := by omega
  simp [execOp, ha.eval hx, Instr.fieldAt, run_underlying hs, hf, Instr.sureAddr, fieldPlace, hsz, this]
/-- The parts of a literal slice lie in a block of its own. -/
theorem wl_lit {len : Nat} {parts : Array (Nat × Operand)} {cs : List Value} {e : Nat} (H : Holds W0 L w) (hn : Nat.ble (d + 1) n = true)
    (hrun : ∀ a, Ag n l a → (Instr.buildSlice t len (parts.map fun (i, x) => (i, a.eval x))).run P w = .ok (.slice (some ⟨w.heap.size, 0, none⟩) len len) (w.alloc (.cells cs.toArray e)))
    (h : ∀ b w', w.heap.size ≤ b → Holds W0 (Blk b e cs :: L) w' → wl P n ops rest Q ((d, .slice (some ⟨b, 0, none⟩) len len) :: l) w') : wl P n ops (⟨some d, .buildSlice t len parts, ty, pos, af, none⟩ :: rest) Q l w :=
  wl_v rfl rfl hn (w' := w.alloc (.cells cs.toArray e)) (v := .slice (some ⟨w.heap.size, 0, none⟩) len len) (fun a ha => by
    simp [execOp, hrun a ha]) (h _ _ (Nat.le_refl _) (H.alloc e cs))
end

section
variable {P : Program} {n : Nat} {Q : Post} {l : Fr} {w W0 : World} {L : List Ch} {ops : Array Oper} {rest : List Oper} {d : Nat} {s x : Operand} {ty t e : TypeId} {pos : String} {af : Array Edge} {v : Value}
/-- append(s, x...), s a row of the call's own; the source is read. -/
theorem wl_append {z : Value} {size bytes m c N : Nat} {A : Option Addr} {cs news : List Value} {L' : Value → List Ch} (H : Holds W0 L w) (U : ∀ v', Upd L (Raw e size v N cs) (Raw e size v' (N + m) (cs ++ news)) (L' v')) (hn : Nat.ble (d + 1) n = true)
    (ht : P.underlying t = some (.slice e)) (hi : (P.info? e).map (fun i => (i.zero, i.size, i.bytes)) = some (some z, size, bytes)) (hz : z.cells.size = size) (hs0 : 0 < size)
    (hs : ev l s = some v) (hx : ev l x = some (.slice A m c)) (hA : 0 < m → A = some (adr A)) (hl : news.length = m * size) (hc : ∀ j u, news[j]? = some u → w.cell? ((adr A).add j) = some u) (h1 : ∀ u ∈ news, u.oneCell' = true)
    (hb : (N + m) * bytes ≤ 140737488355328) (hb0 : 0 < bytes)
    (h : ∀ v' w', Holds W0 (L' v') w' → w.heap.size ≤ w'.heap.size → wl P n ops rest Q ((d, v') :: l) w') : wl P n ops (⟨some d, .call { callee := .builtin .append, args := #[s, x], argTypes := #[t, t] }, ty, pos, af, none⟩ :: rest) Q l w := by
  obtain ⟨i0, hi1, hi2⟩ := Option.map_eq_some_iff.1 hi
  simp only [Prod.mk.injEq] at hi2
  obtain ⟨g1, g2, g3⟩ := hi2
  obtain ⟨S, hS, ⟨hSv, hown⟩, hstep⟩ := H.upd (U v)
  have hlen : N + m ≤ 140737488355328 := Nat.le_trans (Nat.le_mul_of_pos_right _ hb0) hb
  have hrun : ∃ v1 w1, (Builtin.append_ #[t, t] ty #[v, .slice A m c]).run P w = .ok v1 w1 ∧ w1.ownsRow 0 e size v1 (N + m) (cs ++ news) ∧ w.grownBy w1 v.ownBlock ∧ (v1.ownBlock = v.ownBlock ∨ v1.ownBlock = some w.heap.size) := by
    rcases A with _ | ad
    · have h0 : m = 0 := by
        rcases Nat.eq_zero_or_pos m with h0 | h0
        · exact h0
        · exact absurd (hA h0) (by simp)
      subst h0
      have hnil : news = [] := List.eq_nil_of_length_eq_zero (by simpa using hl)
      subst hnil
      refine ⟨v, w, ?_, by simpa using hown, World.grownBy.refl w _, .inl rfl⟩
      rcases hown.2 with ⟨rfl, hn⟩ | ⟨g, cap, cur, rfl, _, _, hnc, _⟩
      · simp [Builtin.append_, run_underlying ht, sizeOf, typeInfo, hi1, Builtin.lenOf, Builtin.firstCells]
      · simp [Builtin.append_, run_underlying ht, sizeOf, typeInfo, hi1, Builtin.lenOf, Builtin.firstCells, hnc, storeCells]
    · obtain ⟨v1, w1, hr, h2, h3, _, h5⟩ := run_append_own_at (P := P) w 0 t ty e i0 z size bytes ht hi1 g1 g2 g3 hz hs0 v N cs hown ad m c news hl hc h1 (by simp only [maxLen]; omega) hb (Nat.zero_le _)
      exact ⟨v1, w1, hr, h2, h3, h5⟩
  obtain ⟨v1, w1, hr, hown1, hg, hat⟩ := hrun
  refine wl_v rfl rfl hn (w' := w1) (v := v1) (fun a ha => ?_) (h v1 w1 ?_ hg.size)
  · simp [execOp, resolve, invoke, builtin, ha.eval hs, ha.eval hx, hr]
  · obtain ⟨S2, hS2, ⟨hSv2, hown2⟩, hstep2⟩ := H.upd (U v1)
    refine hstep2 w1 (fun k => S2 k ∨ (w.heap.size ≤ k ∧ k < w1.heap.size)) hg.os hg.tape hg.output hg.size (fun k hk hn => hg.block k hk (fun e => hn (hSv2 k e.symm))) (fun k hk => hk) ⟨fun k hk => ?_, hown1⟩
    rcases hat with hat | hat
    · exact .inl (hSv2 k (by rw [← hat]; exact hk))
    · rw [hat] at hk
      injection hk with hk
      subst hk
      exact .inr ⟨Nat.le_refl _, (hown1.lt _ hat).2⟩
end
end Go.Proofs.YtgdemplcpcacaaaFx

/-! Maps of the call's own: made, read, written, gone through. -/
namespace Go.Proofs.YtgdemplcpcacaaaFx
open Go Go.RowKit Go.ChangeMaps Go.MapKept Go.WideShapes
open Go.WideMaps (keyOf_string_mk)
open Go.WideElems (Fit rd rg rd_key rd_val rg_of)
open Go.Maps (Keyed)

/-- A map's keys: how they are values, and how they are told. -/
structure KeyK (P : Program) (kt : TypeId) (κ : Type) where
  val : κ → Value
  lit : κ → Lit
  ok : κ → Prop
  law : Keyed P kt
  of : ∀ {x : κ}, ok x → keyOf P kt (val x) = some (lit x)
  inj : ∀ {x y : κ}, lit x = lit y → x = y
  surj : ∀ {v : Value} {l : Lit}, keyOf P kt v = some l → ∃ x, ok x ∧ v = val x ∧ l = lit x
def keyInt {P : Program} {kt : TypeId} {k : IntKind} (h : P.underlying kt = some (.int k)) : KeyK P kt Int where
  val := fun i => .int k i
  lit := fun i => .int k i
  ok := fun i => (Lit.int k i).wf = true
  law := Maps.int_keyed h
  of := fun hw => Maps.keyOf_int_mk h hw
  inj := fun h => by injection h
  surj := fun {v l} hv => by
    rw [keyOf_int h] at hv
    unfold mapKey at hv
    rw [h] at hv
    cases v <;> simp at hv
    obtain ⟨⟨rfl, hw⟩, rfl⟩ := hv
    exact ⟨_, hw, rfl, rfl⟩
def keyStr {P : Program} {kt : TypeId} (h : P.underlying kt = some .string) : KeyK P kt ByteArray where
  val := fun s => .string s
  lit := fun s => .string s.data.toList
  ok := fun s => s.size ≤ maxLen
  law := Maps.string_keyed h
  of := fun hw => keyOf_string_mk h hw
  inj := fun h => by injection h with h; exact ByteArray.ext (Array.toList_inj.1 h)
  surj := fun {v l} hv => by
    rw [keyOf_string h] at hv
    unfold mapKey at hv
    rw [h] at hv
    cases v <;> simp at hv
    obtain ⟨hw, rfl⟩ := hv
    exact ⟨_, hw, rfl, rfl⟩

/-- A value as it stands. -/
def rawR (v : Value) : Option (DataW Value × List MemPlace) := some (.held v, [])
section
variable {P : Program} {kt : TypeId} {κ β : Type} {Kk : KeyK P kt κ} {enc : β → Value} {f : κ → Option β} {b r N cnt : Nat} {left : κ → Bool} {w w' W0 : World} {L L' : List Ch}
def View (Kk : KeyK P kt κ) (enc : β → Value) (D : DataW Value) (f : κ → Option β) : Prop := ∀ x, Kk.ok x → (f x = none → ∀ z, D.atKey (Kk.lit x) z = z) ∧ ∀ v, f x = some v → ∀ z, D.atKey (Kk.lit x) z = .held (enc v)
/-- Block b is a map of at most N entries that tells f. -/
def Mp (Kk : KeyK P kt κ) (enc : β → Value) (b N : Nat) (f : κ → Option β) : Ch where
  p := fun w S => S b ∧ ∃ D, w.ownsMap P kt rawR b N D ∧ View Kk enc D f
  st := fun h ⟨h1, D, ⟨es, clock, hb, F, hs, hD⟩, hv⟩ => ⟨h1, D, ⟨es, clock, (h b h1).trans hb, F, hs, hD⟩, hv⟩
theorem Mp.mono {N' : Nat} (hN : N ≤ N') (S : Nat → Prop) (h : (Mp Kk enc b N f).p w S) : (Mp Kk enc b N' f).p w S := by
  obtain ⟨h1, D, ⟨es, clock, hb, F, hs, hD⟩, hv⟩ := h
  exact ⟨h1, D, ⟨es, clock, hb, F, Nat.le_trans hs hN, hD⟩, hv⟩
theorem Holds.makeMap (H : Holds W0 L w) (Kk : KeyK P kt κ) (enc : β → Value) : Holds W0 (Mp Kk enc w.heap.size 0 (fun _ => none) :: L) (w.alloc (.map #[] 0)) :=
  H.push (below_alloc' w _) ⟨⟨Nat.le_refl _, by simp⟩, _, World.ownsMap_made w P kt rawR, fun x _ => ⟨fun _ z => rfl, fun v h => by cases h⟩⟩
theorem run_look {t e : TypeId} {z : Value} {x : κ} {S : Nat → Prop} (H : (Mp Kk enc b N f).p w S) (ht : P.underlying t = some (.map kt e)) (hz : ∀ W, (zeroValue e).run P W = .ok z W) (hx : Kk.ok x) (c : Bool) :
    (Instr.lookup t (.map (some b)) (Kk.val x) c).run P w = .ok (if c then .tuple #[((f x).map enc).getD z, .bool (f x).isSome] else ((f x).map enc).getD z) w := by
  obtain ⟨_, D, ⟨es, clock, hb, F, hs, rfl⟩, hv⟩ := H
  have hvx := hv x hx
  rcases Maps.fit_look c Kk.law ht (hz w) hb F (Kk.of hx) with ⟨hrun, _, hat⟩ | ⟨e0, y, _, _, hrun, hR, hat, _⟩
  · cases hf : f x with
    | none => rw [hrun]; cases c <;> simp
    | some v =>
      have h1 := hvx.2 v hf .nil
      rw [hat] at h1
      cases h1
  · cases hf : f x with
    | none =>
      have h1 := hvx.1 hf .nil
      rw [hat] at h1
      simp only [rawR, Option.some.injEq] at hR
      subst hR
      cases h1
    | some v =>
      have h1 := hvx.2 v hf .nil
      rw [hat] at h1
      simp only [rawR, Option.some.injEq] at hR
      subst hR
      have h2 : e0.val = enc v := by injection h1
      rw [hrun, h2]
      cases c <;> simp
theorem run_set {t e : TypeId} {x : κ} {v : β} [DecidableEq κ] (H : Holds W0 L w) (U : Upd L (Mp Kk enc b N f) (Mp Kk enc b (N + 1) (fun y => if y = x then some v else f y)) L') (ht : P.underlying t = some (.map kt e)) (hx : Kk.ok x) (hN : N < maxLen) :
    ∃ w', (Instr.mapUpdate t (.map (some b)) (Kk.val x) (enc v)).run P w = .ok () w' ∧ Holds W0 L' w' ∧ w.heap.size ≤ w'.heap.size := by
  obtain ⟨S, hS, ⟨hSb, D, hown, hv⟩, hstep⟩ := H.upd U
  have hD : Maps.IsMap D := by
    obtain ⟨es, _, _, _, _, rfl⟩ := hown
    exact ⟨_, rfl⟩
  obtain ⟨w', hrun, hown', hg⟩ := hown.update Kk.law ht hN (Kk.of hx) (show rawR (enc v) = some (.held (enc v), []) from rfl)
  refine ⟨w', hrun, hstep w' S hg.os hg.tape hg.output hg.size (fun k hk hn => hg.block k hk (fun e => hn (by injection e with e; rw [e]; exact hSb))) (fun k hk => .inl hk) ⟨hSb, _, hown', fun y hy => ?_⟩, hg.size⟩
  by_cases hyx : y = x
  · subst hyx
    simp only [if_true]
    refine ⟨fun h => (by cases h), fun u hu z => ?_⟩
    cases hu
    exact Maps.atKey_put_same hD (Kk.law.key (Kk.of hx)) _ _
  · have hne : Kk.lit y ≠ Kk.lit x := fun h => hyx (Kk.inj h)
    simp only [if_neg hyx]
    exact ⟨fun h z => by rw [Maps.atKey_put_other hne]; exact (hv y hy).1 h z, fun u hu z => by rw [Maps.atKey_put_other hne]; exact (hv y hy).2 u hu z⟩

/-- A loop over a map under way: which keys are left, how many; the entry that came up last. -/
def It (Kk : KeyK P kt κ) (enc : β → Value) (b r N : Nat) (f : κ → Option β) (left : κ → Bool) (cnt : Nat) (cur : Option (κ × β)) : Ch where
  p := fun w S => S b ∧ S r ∧ ∃ es clock since seen c0, w.heap[b]? = some (.map es clock) ∧ Fit P kt rawR es clock ∧ es.size ≤ N ∧ View Kk enc (.map ((es.toList.map (rg P kt rawR)).foldr DataW.insert [])) f ∧
    w.heap[r]? = some (.mapIter (some b) since seen c0) ∧ (∀ x ∈ es.toList, x.born < since) ∧ since ≤ c0 ∧ since ≤ clock ∧ (leftOf es seen).size = cnt ∧
    (∀ x, Kk.ok x → ∀ e ∈ es.toList, e.key = Kk.val x → left x = !seen.contains e.born) ∧ (∀ x, Kk.ok x → left x = true → ∃ e ∈ es.toList, e.key = Kk.val x) ∧
    ∀ x v, cur = some (x, v) → ∃ (s' : Array Nat) (e : MapEntry), c0 = clock ∧ seen = s'.push e.born ∧ e ∈ es.toList ∧ e.key = Kk.val x ∧ e.val = enc v
  st := fun h ⟨h1, h2, es, clock, since, seen, c0, hb, F, hN, hv, hr, g⟩ => ⟨h1, h2, es, clock, since, seen, c0, (h b h1).trans hb, F, hN, hv, (h r h2).trans hr, g⟩
/-- What the view says of the entries. -/
theorem View.entry {es : Array MapEntry} {clock : Nat} (F : Fit P kt rawR es clock) (hv : View Kk enc (.map ((es.toList.map (rg P kt rawR)).foldr DataW.insert [])) f) {x : κ} (hx : Kk.ok x) :
    (f x = none → ∀ e ∈ es.toList, e.key ≠ Kk.val x) ∧ ∀ v, f x = some v → ∃ e ∈ es.toList, e.key = Kk.val x ∧ e.val = enc v := by
  have hat := atKey_sorted (es.toList.map (rg P kt rawR)) (Maps.fit_rising Kk.law F) (Kk.lit x) (Kk.law.key (Kk.of hx))
  constructor
  · intro h e he hk
    obtain ⟨y0, hy0⟩ := F.reads e he
    have h1 := rd_key hy0
    rw [hk, Kk.of hx] at h1
    have h2 := hat.2 (rg P kt rawR e) (List.mem_map.2 ⟨e, he, rfl⟩) (by rw [rg_of hy0]; exact (Option.some.inj h1).symm) .nil
    rw [(hv x hx).1 h, rg_of hy0] at h2
    obtain ⟨z, hz, hzd⟩ := rd_val hy0
    simp only [rawR, Option.some.injEq] at hz
    subst hz
    rw [hzd] at h2
    cases h2
  · intro v h
    by_cases hex : ∃ e ∈ es.toList, e.key = Kk.val x
    · obtain ⟨e, he, hk⟩ := hex
      refine ⟨e, he, hk, ?_⟩
      obtain ⟨y0, hy0⟩ := F.reads e he
      have h1 := rd_key hy0
      rw [hk, Kk.of hx] at h1
      have h2 := hat.2 (rg P kt rawR e) (List.mem_map.2 ⟨e, he, rfl⟩) (by rw [rg_of hy0]; exact (Option.some.inj h1).symm) .nil
      rw [(hv x hx).2 v h, rg_of hy0] at h2
      obtain ⟨z, hz, hzd⟩ := rd_val hy0
      simp only [rawR, Option.some.injEq] at hz
      subst hz
      rw [hzd] at h2
      injection h2 with h2
      exact h2.symm
    · have h2 := hat.1 (fun q hq hqe => hex (by
        obtain ⟨e, he, rfl⟩ := List.mem_map.1 hq
        obtain ⟨y0, hy0⟩ := F.reads e he
        have h1 := rd_key hy0
        rw [rg_of hy0] at hqe
        refine ⟨e, he, ?_⟩
        rw [hqe] at h1
        exact Kk.law.inj h1 (Kk.of hx))) .nil
      rw [(hv x hx).2 v h] at h2
      cases h2
theorem View.some_iff {es : Array MapEntry} {clock : Nat} (F : Fit P kt rawR es clock) (hv : View Kk enc (.map ((es.toList.map (rg P kt rawR)).foldr DataW.insert [])) f) {x : κ} (hx : Kk.ok x) : (f x).isSome = true ↔ ∃ e ∈ es.toList, e.key = Kk.val x := by
  have h := View.entry F hv hx
  cases hf : f x with
  | none => exact ⟨fun h => (by cases h), fun ⟨e, he, hk⟩ => absurd hk (h.1 hf e he)⟩
  | some v => exact ⟨fun _ => let ⟨e, he, hk, _⟩ := h.2 v hf; ⟨e, he, hk⟩, fun _ => rfl⟩
/-- 'range m'. -/
theorem run_range {t e : TypeId} {Lf : Nat → Nat → List Ch} (H : Holds W0 L w) (U : ∀ r cnt, Upd L (Mp Kk enc b N f) (It Kk enc b r N f (fun x => (f x).isSome) cnt none) (Lf r cnt)) (ht : P.underlying t = some (.map kt e)) :
    ∃ r cnt w', (Instr.range t (.map (some b))).run P w = .ok (.pointer (some ⟨r, 0, none⟩)) w' ∧ Holds W0 (Lf r cnt) w' ∧ w.heap.size ≤ r ∧ w.heap.size ≤ w'.heap.size ∧ cnt ≤ N := by
  obtain ⟨S0, _, ⟨_, D0, ⟨es, clock, hb, F, hs, hD⟩, hv0⟩, _⟩ := H.upd (U 0 0)
  obtain ⟨S, hS, ⟨hSb, D, ⟨es', clock', hb', F', hs', rfl⟩, hv⟩, hstep⟩ := H.upd (U w.heap.size (leftOf es #[]).size)
  rw [hb] at hb'
  injection hb' with hb'
  injection hb' with h1 h2
  subst h1 h2
  have hlt := (hS b hSb).2
  refine ⟨w.heap.size, _, _, run_range_map w t kt e b es clock ht hb, hstep (w.alloc (.mapIter (some b) clock #[] clock)) (fun k => S k ∨ k = w.heap.size) rfl rfl rfl (by simp) (fun k hk _ => Below.heap_alloc w _ k hk) (fun k hk => hk.imp id (fun e => by subst e; exact ⟨Nat.le_refl _, by simp⟩)) ?_, Nat.le_refl _, by simp, ?_⟩
  · refine ⟨.inl hSb, .inr rfl, es, clock, clock, #[], clock, (Below.heap_alloc w _ b hlt).trans hb, F, hs, hv, (MapKept.heap_alloc w _).1, F.stamped.1, Nat.le_refl _, Nat.le_refl _, rfl, fun x hx e he hk => ?_, fun x hx hl => (View.some_iff F hv hx).1 hl, fun x v h => by cases h⟩
    show (f x).isSome = _
    rw [(View.some_iff F hv hx).2 ⟨e, he, hk⟩]
    simp
  · refine Nat.le_trans ?_ hs
    unfold leftOf
    exact Array.size_filter_le
/-- The step: nothing is left, or some key that is left comes up. -/
theorem run_nxt {ty : TypeId} {cur : Option (κ × β)} {Lf : (κ → Bool) → Nat → Option (κ × β) → List Ch} (H : Holds W0 L w) (U : ∀ left' cnt' cur', Upd L (It Kk enc b r N f left cnt cur) (It Kk enc b r N f left' cnt' cur') (Lf left' cnt' cur')) :
    ((∀ x, Kk.ok x → left x = false) ∧ (Instr.next (.pointer (some ⟨r, 0, none⟩)) false ty).run P w = .ok (.tuple #[.bool false]) w) ∨
    ∃ x v left' cnt' w', Kk.ok x ∧ left x = true ∧ f x = some v ∧ (∀ y, Kk.ok y → (left' y = true ↔ left y = true ∧ y ≠ x)) ∧ cnt' < cnt ∧
      (Instr.next (.pointer (some ⟨r, 0, none⟩)) false ty).run P w = .ok (.tuple #[.bool true, Kk.val x, enc v]) w' ∧ Holds W0 (Lf left' cnt' (some (x, v))) w' ∧ w.heap.size ≤ w'.heap.size := by
  obtain ⟨_, _, ⟨_, _, es, clock, since, seen, c0, hb, F, hN, hv, hr, hold, hsc, hsk, hcnt, hl1, hl2, _⟩, _⟩ := H.upd (U (fun _ => false) 0 none)
  rcases run_next_at (P := P) w ty r b since c0 seen es clock hr hb hold hsc with ⟨h0, hrun⟩ | ⟨e, he, w1, hal, hrun⟩
  · refine .inl ⟨fun x hx => ?_, hrun⟩
    cases hk : left x
    · rfl
    · obtain ⟨e, he, hek⟩ := hl2 x hx hk
      rw [hl1 x hx e he hek, all_seen es seen h0 e he] at hk
      cases hk
  · obtain ⟨hem, hes⟩ := mem_left he
    obtain ⟨y0, hy0⟩ := F.reads e hem
    obtain ⟨x, hx, hxk, hxl⟩ := Kk.surj (rd_key hy0)
    have hlx : left x = true := by rw [hl1 x hx e hem hxk, hes]; rfl
    obtain ⟨v, hfv⟩ := Option.isSome_iff_exists.1 ((View.some_iff F hv hx).2 ⟨e, hem, hxk⟩)
    have hst := (stamped_iff es clock).1 F.stamped
    have hev : e.val = enc v := by
      obtain ⟨e', he', hk', hv'⟩ := (View.entry F hv hx).2 v hfv
      have : e' = e := entry_eq_of_key hst.2.2 he' hem (hk'.trans hxk.symm)
      rw [← this]; exact hv'
    have hne : r ≠ b := fun h => by rw [h, hb] at hr; cases hr
    obtain ⟨S, hS, ⟨hSb, hSr, _⟩, hstep⟩ := H.upd (U (fun y => left y && !(@decide (y = x) (Classical.propDecidable _))) ((leftOf es (seen.push e.born)).size) (some (x, v)))
    have hr1 : w1.heap[r]? = some (.mapIter (some b) since seen c0) := by rcases hal with rfl | rfl <;> exact hr
    have hset := heap_set (o' := .mapIter (some b) since (seen.push e.born) clock) hr1
    have hw1 : w1.heap = w.heap := by rcases hal with rfl | rfl <;> rfl
    have hsz : (setBlock w1 r (.mapIter (some b) since (seen.push e.born) clock)).heap.size = w.heap.size := by simp [setBlock, hw1]
    have e1 : (setBlock w1 r (.mapIter (some b) since (seen.push e.born) clock)).os = w.os := by rcases hal with rfl | rfl <;> rfl
    have e2 : (setBlock w1 r (.mapIter (some b) since (seen.push e.born) clock)).tape = w.tape := by rcases hal with rfl | rfl <;> rfl
    have e3 : (setBlock w1 r (.mapIter (some b) since (seen.push e.born) clock)).output = w.output := by rcases hal with rfl | rfl <;> rfl
    have hoth : ∀ k, k ≠ r → (setBlock w1 r (.mapIter (some b) since (seen.push e.born) clock)).heap[k]? = w.heap[k]? := fun k hk => (hset.2 k hk).trans (by rw [hw1])
    have key_inj : ∀ y, Kk.ok y → Kk.val y = Kk.val x → y = x := fun y hy h => Kk.inj (by
      have h1 := Kk.of hy
      rw [h, Kk.of hx] at h1
      exact (Option.some.inj h1).symm)
    refine .inr ⟨x, v, _, _, _, hx, hlx, hfv, fun y hy => ?_, by rw [← hcnt]; exact left_shrinks es seen e he, by rw [← hxk, ← hev]; exact hrun, hstep _ S e1 e2 e3 (by rw [hsz]; exact Nat.le_refl _) (fun k hk hn => hoth k (fun h => hn (h ▸ hSr))) (fun k hk => .inl hk)
      ⟨hSb, hSr, es, clock, since, seen.push e.born, clock, (hoth b (Ne.symm hne)).trans hb, F, hN, hv, hset.1, hold, hsk, hsk, rfl, fun y hy e' he' hk' => ?_, fun y hy hl => ?_, fun x' v' hc => ?_⟩, by rw [hsz]; exact Nat.le_refl _⟩
    · simp
    · rw [contains_push]
      show (left y && !(@decide (y = x) (Classical.propDecidable _))) = _
      rw [hl1 y hy e' he' hk']
      by_cases hyx : y = x
      · subst hyx
        have : e' = e := entry_eq_of_key hst.2.2 he' hem (hk'.trans hxk.symm)
        subst this
        simp
      · have hb' : (e'.born == e.born) = false := by
          cases hbb : e'.born == e.born
          · rfl
          · have : e' = e := born_inj hst.2.1 he' hem (beq_iff_eq.1 hbb)
            subst this
            exact absurd (key_inj y hy (hk'.symm.trans hxk)) hyx
        simp [hyx, hb']
    · simp only [Bool.and_eq_true] at hl
      exact hl2 y hy hl.1
    · simp only [Option.some.injEq, Prod.mk.injEq] at hc
      obtain ⟨rfl, rfl⟩ := hc
      exact ⟨seen, e, rfl, rfl, hem, hxk, hev⟩
theorem run_ent {x : κ} {v : β} (H : Holds W0 L w) (U : Upd L (It Kk enc b r N f left cnt (some (x, v))) (It Kk enc b r N f left cnt (some (x, v))) L) : (Instr.entry (.pointer (some ⟨r, 0, none⟩))).run P w = .ok (.tuple #[Kk.val x, enc v]) w := by
  obtain ⟨_, _, _, _, es, clock, since, seen, c0, hb, F, hN, hv, hr, hold, hsc, hsk, hcnt, hl1, hl2, hcur⟩ := H.get U
  obtain ⟨s', e, rfl, rfl, he, hk, hev⟩ := hcur x v rfl
  rw [← hk, ← hev]
  exact run_entry_at w r b since s' es _ e hr hb he ((stamped_iff es _).1 F.stamped).2.1
theorem It.mono {cur : Option (κ × β)} {w : World} {N' : Nat} (hN : N ≤ N') (S : Nat → Prop) (h : (It Kk enc b r N f left cnt cur).p w S) : (It Kk enc b r N' f left cnt cur).p w S := by
  obtain ⟨h1, h2, es, clock, since, seen, c0, hb, F, hs, g⟩ := h
  exact ⟨h1, h2, es, clock, since, seen, c0, hb, F, Nat.le_trans hs hN, g⟩
/-- Behind the loop: the map alone. -/
theorem It.mp {cur : Option (κ × β)} {w : World} (S : Nat → Prop) (h : (It Kk enc b r N f left cnt cur).p w S) : (Mp Kk enc b N f).p w S := by
  obtain ⟨h1, _, es, clock, since, seen, c0, hb, F, hN, hv, _⟩ := h
  exact ⟨h1, _, ⟨es, clock, hb, F, hN, rfl⟩, hv⟩
end
end Go.Proofs.YtgdemplcpcacaaaFx

/-! Rules for the generated walks: sums without overflow, fields by closed facts, maps at their operations. -/
namespace Go.Proofs.YtgdemplcpcacaaaFx
open Go Go.RowKit

theorem of_nd_t {p : Prop} [Decidable p] (h : (!decide p) = true) : ¬ p := by simpa using h
theorem of_nd_f {p : Prop} [Decidable p] (h : (!decide p) = false) : p := by simpa using h
theorem of_n_t {b : Bool} (h : (!b) = true) : b = false := by simpa using h
theorem of_n_f {b : Bool} (h : (!b) = false) : b = true := by simpa using h
/-- Field f of struct type s lies o cells from its beginning. -/
structure FieldAt (P : Program) (s : TypeId) (f o : Nat) : Prop where
  fs : ∃ (fs : Array Field) (fd : Field) (sz : Nat), P.underlying s = some (.struct fs) ∧ fs[f]? = some fd ∧ (∀ W, (sizeOf fd.type).run P W = .ok sz W) ∧ 0 < sz ∧ fd.offset = o
theorem field_at {P : Program} {s : TypeId} {f o : Nat} {fs : Array Field} {fd : Field} {sz : Nat} (hs : P.underlying s = some (.struct fs)) (hf : fs[f]? = some fd) (hi : (P.info? fd.type).map (·.size) = some (sz + 1)) (ho : fd.offset = o) : FieldAt P s f o :=
  ⟨fs, fd, sz + 1, hs, hf, fun W => by
    obtain ⟨i, hi1, hi2⟩ := Option.map_eq_some_iff.1 hi
    simp [sizeOf, typeInfo, hi1, hi2], by omega, ho⟩
theorem size_of {P : Program} {t : TypeId} {k : Nat} (hi : (P.info? t).map (·.size) = some k) : ∀ W, (sizeOf t).run P W = .ok k W := fun W => by
  obtain ⟨i, hi1, hi2⟩ := Option.map_eq_some_iff.1 hi
  simp [sizeOf, typeInfo, hi1, hi2]

section
variable {P : Program} {n : Nat} {Q : Post} {Qs : Fr → Prop} {l : Fr} {w W0 : World} {L L' : List Ch} {ops : Array Oper} {rest : List Oper} {d : Nat} {x y : Operand} {ty t t2 : TypeId} {pos : String} {af : Array Edge} {gd : Option (Nat × Bool)} {dst : Option Tmp} {v : Value} {i j : Int}
theorem v_addi (hx : ev l x = some (.int .i64 i)) (hy : ev l y = some (.int .i64 j)) (h : -9223372036854775808 ≤ i + j ∧ i + j ≤ 9223372036854775807) : Vs P n l ⟨dst, .binOp .add t x y t2, ty, pos, af, gd⟩ w (.int .i64 (i + j)) := by
  have h1 := v_add (P := P) (n := n) (w := w) (ty := ty) (t := t) (t2 := t2) (pos := pos) (af := af) (gd := gd) (dst := dst) hx hy
  rwa [IntWalk.i64_in _ h] at h1
theorem v_subi (hx : ev l x = some (.int .i64 i)) (hy : ev l y = some (.int .i64 j)) (h : -9223372036854775808 ≤ i - j ∧ i - j ≤ 9223372036854775807) : Vs P n l ⟨dst, .binOp .sub t x y t2, ty, pos, af, gd⟩ w (.int .i64 (i - j)) := by
  have h1 := v_sub (P := P) (n := n) (w := w) (ty := ty) (t := t) (t2 := t2) (pos := pos) (af := af) (gd := gd) (dst := dst) hx hy
  rwa [IntWalk.i64_in _ h] at h1
theorem v_negi (hx : ev l x = some (.int .i64 i)) (h : -9223372036854775807 ≤ i ∧ i ≤ 9223372036854775807) : Vs P n l ⟨dst, .unOp .neg t x, ty, pos, af, gd⟩ w (.int .i64 (-i)) := by
  have h1 := v_neg (P := P) (n := n) (w := w) (ty := ty) (t := t) (pos := pos) (af := af) (gd := gd) (dst := dst) hx
  rwa [IntWalk.i64_in _ (by omega), Int.zero_sub] at h1
theorem v_pick_t {c a b : Operand} {q : Bool} (hc : ev l c = some (.bool q)) (hq : q = true) (hx : ev l a = some v) : Vs P n l ⟨dst, .pick c a b, ty, pos, af, gd⟩ w v := v_pick hc (fun _ => hx) (fun h => by rw [hq] at h; cases h)
theorem v_pick_f {c a b : Operand} {q : Bool} (hc : ev l c = some (.bool q)) (hq : q = false) (hx : ev l b = some v) : Vs P n l ⟨dst, .pick c a b, ty, pos, af, gd⟩ w v := v_pick hc (fun h => by rw [hq] at h; cases h) (fun _ => hx)
/-- A guard: both ways. -/
theorem wl_guard {op : Op} {jj dj : Nat} {b b' : Bool} (hj : (ops[jj]?).bind (·.dst) = some dj) (hb : lk l dj = some (.bool b')) (hn : Nat.ble (d + 1) n = true)
    (h1 : b' = b → wl P n ops ({ dst := some d, op := op, type := ty, pos := pos, after := af, guard := none } :: rest) Q l w) (h2 : b' = !b → wl P n ops rest Q ((d, undef) :: l) w) : wl P n ops ({ dst := some d, op := op, type := ty, pos := pos, after := af, guard := some (jj, b) } :: rest) Q l w := by
  by_cases h : b' = b
  · subst h
    exact wl_on hj hb (h1 rfl)
  · have h' : b' = !b := by cases b <;> cases b' <;> simp_all
    exact wl_off hj hb h' hn (h2 h')
theorem wl_on' {op : Op} {jj dj : Nat} {b b' : Bool} (hj : (ops[jj]?).bind (·.dst) = some dj) (hb : lk l dj = some (.bool b')) (he : b' = b)
    (h1 : wl P n ops ({ dst := dst, op := op, type := ty, pos := pos, after := af, guard := none } :: rest) Q l w) : wl P n ops ({ dst := dst, op := op, type := ty, pos := pos, after := af, guard := some (jj, b) } :: rest) Q l w := by
  subst he
  exact wl_on hj hb h1
/-! ### short forms -/
theorem oT {p : Prop} [Decidable p] (h : decide p = true) : p := of_decide_eq_true h
theorem oF {p : Prop} [Decidable p] (h : decide p = false) : ¬ p := of_decide_eq_false h
theorem wV {op : Op} {w' : World} (hv : Vw P n l ⟨some d, op, ty, pos, af, none⟩ w v w') (h : wl P n ops rest Q ((d, v) :: l) w') (hn : Nat.ble (d + 1) n = true := by exact rfl) : wl P n ops (⟨some d, op, ty, pos, af, none⟩ :: rest) Q l w := wl_v rfl rfl hn hv h
theorem wM (h : wl P n ops rest Q ((d, v) :: l) w) (hx : ev l x = some v := by exact rfl) (hn : Nat.ble (d + 1) n = true := by exact rfl) : wl P n ops (⟨some d, .move x, ty, pos, af, none⟩ :: rest) Q l w := wl_v rfl rfl hn (v_move hx) h
theorem wA (h : wl P n ops rest Q ((d, v) :: l) w) (hx : ev l x = some v := by exact rfl) (hn : Nat.ble (d + 1) n = true := by exact rfl) : wl P n ops (⟨some d, .assign x, ty, pos, af, none⟩ :: rest) Q l w := wl_v rfl rfl hn (v_assign hx) h
theorem wF {op : Op} {jj dj : Nat} {b b' : Bool} (hne : b' = !b) (h : wl P n ops rest Q ((d, undef) :: l) w) (hj : (ops[jj]?).bind (·.dst) = some dj := by exact rfl) (hb : lk l dj = some (.bool b') := by exact rfl) (hn : Nat.ble (d + 1) n = true := by exact rfl) : wl P n ops ({ dst := some d, op := op, type := ty, pos := pos, after := af, guard := some (jj, b) } :: rest) Q l w := wl_off hj hb hne hn h
theorem wO {op : Op} {jj dj : Nat} {b b' : Bool} (he : b' = b) (h1 : wl P n ops ({ dst := dst, op := op, type := ty, pos := pos, after := af, guard := none } :: rest) Q l w) (hj : (ops[jj]?).bind (·.dst) = some dj := by exact rfl) (hb : lk l dj = some (.bool b') := by exact rfl) : wl P n ops ({ dst := dst, op := op, type := ty, pos := pos, after := af, guard := some (jj, b) } :: rest) Q l w := wl_on' hj hb he h1
theorem wcR {id : Nat} {ops : List Oper} {y : Code} (h : wl P n ops.toArray ops (thenQ (fun l w => wc P n y Q l w) Q) l w) : wc P n (.seq (.region id ops.toArray false) y) Q l w := wc_seq (wc_region h)
theorem ws_guard {op : Op} {jj dj : Nat} {b b' : Bool} (hj : (ops[jj]?).bind (·.dst) = some dj) (hb : lk l dj = some (.bool b')) (hn : Nat.ble (d + 1) n = true)
    (h1 : b' = b → ws P n ops ({ dst := some d, op := op, type := ty, pos := pos, after := af, guard := none } :: rest) Qs l w) (h2 : b' = !b → ws P n ops rest Qs ((d, undef) :: l) w) : ws P n ops ({ dst := some d, op := op, type := ty, pos := pos, after := af, guard := some (jj, b) } :: rest) Qs l w := by
  by_cases h : b' = b
  · subst h
    exact ws_on hj hb (h1 rfl)
  · have h' : b' = !b := by cases b <;> cases b' <;> simp_all
    exact ws_off hj hb h' hn (h2 h')
theorem ws_on' {op : Op} {jj dj : Nat} {b b' : Bool} (hj : (ops[jj]?).bind (·.dst) = some dj) (hb : lk l dj = some (.bool b')) (he : b' = b)
    (h1 : ws P n ops ({ dst := dst, op := op, type := ty, pos := pos, after := af, guard := none } :: rest) Qs l w) : ws P n ops ({ dst := dst, op := op, type := ty, pos := pos, after := af, guard := some (jj, b) } :: rest) Qs l w := by
  subst he
  exact ws_on hj hb h1
/-- A field's address: in a block, by its place; elsewhere. -/
theorem v_fb {s f o b off o2 : Nat} (hF : FieldAt P s f o) (hx : ev l x = some (.pointer (some ⟨b, off, none⟩))) (ho : off + o = o2) : Vs P n l ⟨some d, .fieldAddr s x f, ty, pos, af, none⟩ w (.pointer (some ⟨b, o2, none⟩)) := by
  obtain ⟨fs, fd, sz, h1, h2, h3, h4, rfl⟩ := hF.fs
  subst ho
  exact v_field h1 h2 h3 h4 hx
theorem v_fp {s f o : Nat} {p : Addr} (hF : FieldAt P s f o) (hx : ev l x = some (.pointer (some p))) : Vs P n l ⟨some d, .fieldAddr s x f, ty, pos, af, none⟩ w (.pointer (some (p.add o))) := by
  obtain ⟨fs, fd, sz, h1, h2, h3, h4, rfl⟩ := hF.fs
  exact v_fld h1 h2 h3 h4 hx

/-! ### composite values -/
/-- cs out of z, by the parts laid in. -/
inductive Fills (pl : Nat → Option (Nat × Nat)) : List Value → List (Nat × Value) → List Value → Prop
  | nil (cs : List Value) : Fills pl cs [] cs
  | cons {cs cs1 cs2 vs : List Value} {i off sz : Nat} {v : Value} {r : List (Nat × Value)} (h1 : pl i = some (off, sz)) (h2 : v.cells = vs.toArray) (h3 : vs.length = sz) (h4 : Put cs off vs cs1) (h5 : Fills pl cs1 r cs2) : Fills pl cs ((i, v) :: r) cs2
theorem Put.len {cs vs cs' : List Value} {off : Nat} (h : Put cs off vs cs') : off + vs.length ≤ cs.length := by
  induction h with
  | nil => simp
  | here v h ih => simp only [List.length_cons]; omega
  | there h ih => simp only [List.length_cons]; omega
theorem fold_put : ∀ (vs : List Value) (i : Nat) (cs cs' : List Value) (off : Nat), Put cs (off + i) vs cs' → (vs.zipIdx i).foldl (fun (a : Array Value) (p : Value × Nat) => a.setIfInBounds (off + p.2) p.1) cs.toArray = cs'.toArray
  | [], i, cs, cs', off, h => by rw [h.last]; rfl
  | v :: vs, i, cs, cs', off, h => by
    obtain ⟨hlt, h'⟩ := h.first
    rw [List.zipIdx_cons, List.foldl_cons]
    have : cs.toArray.setIfInBounds (off + i) v = (cs.set (off + i) v).toArray := by simp
    rw [this]
    exact fold_put vs (i + 1) _ _ off (by rw [← Nat.add_assoc]; exact h')
theorem fill_of {pl : Nat → Option (Nat × Nat)} {cs cs' : List Value} {ps : List (Nat × Value)} (h : Fills pl cs ps cs') : Instr.fill pl cs.toArray ps = some cs'.toArray := by
  induction h with
  | nil => rfl
  | cons h1 h2 h3 h4 h5 ih =>
    rename_i cs0 cs1 cs2 vs i off sz v r
    have hl := h4.len
    have hf : v.cells.zipIdx.foldl (fun (a : Array Value) (p : Value × Nat) => a.setIfInBounds (off + p.2) p.1) cs0.toArray = cs1.toArray := by
      have hz : vs.toArray.zipIdx = vs.zipIdx.toArray := by simp
      rw [h2, hz, List.foldl_toArray]
      exact fold_put vs 0 cs0 cs1 off h4
    simp only [Instr.fill, h1]
    rw [if_neg (by rw [h2]; simp; omega)]
    exact (congrArg (fun a => Instr.fill pl a r) hf).trans ih
/-- The values of parts. -/
def evp (l : Fr) : List (Nat × Operand) → Option (List (Nat × Value))
  | [] => some []
  | (i, x) :: r => match ev l x, evp l r with
    | some v, some vs => some ((i, v) :: vs)
    | _, _ => none
theorem Ag.evalp {a : Act} (ha : Ag n l a) : ∀ {ps : List (Nat × Operand)} {vs : List (Nat × Value)}, evp l ps = some vs → ps.map (fun p => (p.1, a.eval p.2)) = vs
  | [], vs, h => by simpa [evp] using h
  | (i, x) :: r, vs, h => by
    unfold evp at h
    split at h
    · rename_i v us hv hus
      cases h
      rw [List.map_cons, ha.eval hv, ha.evalp hus]
    · cases h
def plc (f : Field) : Sem (Nat × Nat) := do pure (f.offset, ← sizeOf f.type)
theorem run_plc {f : Field} {i : TypeInfo} (h : P.info? f.type = some i) (W : World) : (plc f).run P W = .ok (f.offset, i.size) W := by simp [plc, sizeOf, typeInfo, h]
/-- A struct type: its zero value's cells, its fields' places. -/
structure BuildAt (P : Program) (t : TypeId) (z : List Value) (pl : List (Nat × Nat)) : Prop where
  zero : ∀ W, (zeroValue t).run P W = .ok (.agg z.toArray) W
  fs : ∃ fs : Array Field, P.underlying t = some (.struct fs) ∧ ∀ W, (fs.mapM plc).run P W = .ok pl.toArray W
theorem mapM_places (P : Program) (W : World) : ∀ (l : List Field) (pl : List (Nat × Nat)), (l.map fun (f : Field) => (P.info? f.type).map fun i => (f.offset, i.size)) = pl.map some → (l.mapM plc).run P W = .ok pl W
  | [], pl, h => by
    cases pl with
    | nil => rfl
    | cons p r => cases h
  | f :: r, pl, h => by
    cases pl with
    | nil => cases h
    | cons p q =>
      simp only [List.map_cons, List.cons.injEq] at h
      obtain ⟨i, hi, hi2⟩ := Option.map_eq_some_iff.1 h.1
      rw [List.mapM_cons]
      simp only [Sem.run_bind, run_plc hi, Result.andThen_ok, mapM_places P W r q h.2, Sem.run_pure, hi2]
theorem build_at {t : TypeId} {z : List Value} {fs : List Field} {pl : List (Nat × Nat)} (hu : P.underlying t = some (.struct fs.toArray)) (hz : (P.info? t).map (·.zero) = some (some (.agg z.toArray))) (hp : (fs.map fun (f : Field) => (P.info? f.type).map fun i => (f.offset, i.size)) = pl.map some) : BuildAt P t z pl :=
  ⟨zero_of hz, fs.toArray, hu, fun W => by
    rw [List.mapM_toArray]
    have h := mapM_places P W fs pl hp
    show (List.toArray <$> List.mapM plc fs : Sem (Array (Nat × Nat))).run P W = _
    rw [show (List.toArray <$> List.mapM plc fs : Sem (Array (Nat × Nat))) = (do let x ← List.mapM plc fs; pure x.toArray) from rfl]
    simp only [Sem.run_bind, h, Result.andThen_ok, Sem.run_pure]⟩
def plAt (pl : List (Nat × Nat)) (i : Nat) : Option (Nat × Nat) := pl[i]?
theorem v_bld {z cs : List Value} {pl : List (Nat × Nat)} {parts : List (Nat × Operand)} {pvs : List (Nat × Value)} (hB : BuildAt P t z pl) (hev : evp l parts = some pvs) (hf : Fills (plAt pl) z pvs cs) : Vs P n l ⟨dst, .build t parts.toArray, ty, pos, af, gd⟩ w (.agg cs.toArray) := fun a ha => by
  obtain ⟨fs, h1, h2⟩ := hB.fs
  have h2' : ∀ W, (fs.mapM fun (f : Field) => (do pure (f.offset, ← sizeOf f.type) : Sem (Nat × Nat))).run P W = .ok pl.toArray W := h2
  have h3 := fill_of hf
  have h4 : (parts.toArray.map fun (i, x) => (i, a.eval x)).toList = pvs := by
    have := ha.evalp hev
    simpa using this
  have h5 : (fun i => pl.toArray[i]?) = plAt pl := by funext i; simp [plAt]
  simp only [execOp, Instr.build, Sem.run_bind, hB.zero, run_underlying h1, h2', Result.andThen_ok, Value.cells]
  rw [h4]
  simp only [h5, h3, Sem.run_pure]
  rfl
/-- A literal slice: its parts' cells in a block. -/
theorem wl_slit {z cs : List Value} {len sz : Nat} {e : TypeId} {parts : List (Nat × Operand)} {pvs : List (Nat × Value)} (H : Holds W0 L w) (hn : Nat.ble (d + 1) n = true) (ht : P.underlying t = some (.slice e)) (hsz : ∀ W, (sizeOf e).run P W = .ok sz W) (hz : ∀ W, (zeroValue e).run P W = .ok v W)
    (hle : len * sz ≤ 16777216) (h0 : len * sz ≠ 0) (hi : (Array.range (len * sz)).map (fun i => v.cells[i % v.cells.size]!) = z.toArray) (hev : evp l parts = some pvs) (hf : Fills (fun i => some (i * sz, sz)) z pvs cs)
    (h : ∀ b w', w.heap.size ≤ b → Holds W0 (Blk b e cs :: L) w' → w.heap.size ≤ w'.heap.size → wl P n ops rest Q ((d, .slice (some ⟨b, 0, none⟩) len len) :: l) w') : wl P n ops (⟨some d, .buildSlice t len parts.toArray, ty, pos, af, none⟩ :: rest) Q l w :=
  wl_v rfl rfl hn (w' := w.alloc (.cells cs.toArray e)) (v := .slice (some ⟨w.heap.size, 0, none⟩) len len) (fun a ha => by
    have h3 := fill_of hf
    have h4 : (parts.toArray.map fun (i, x) => (i, a.eval x)).toList = pvs := by
      have := ha.evalp hev
      simpa using this
    simp only [execOp, Instr.buildSlice, Sem.run_bind, run_underlying ht, hsz, Result.andThen_ok, if_neg h0, Sem.run_pure]
    rw [if_neg (by omega)]
    have h4' : (Array.map (fun x => (x.fst, a.eval x.snd)) parts.toArray).toList = pvs := h4
    simp only [Sem.run_bind, Sem.run_pure, Result.andThen_ok, hz, hi, h4', h3]
    simp [newRow]) (h _ _ (Nat.le_refl _) (H.alloc e cs) (by simp))

/-! ### calls and what they leave -/
theorem Holds.call0 {w' : World} (H : Holds W0 L w) (h : Holds w [] w') : Holds W0 L w' := H.below h.old
theorem Holds.call1 {w' : World} {A : Ch} (H : Holds W0 L w) (h : Holds w [A] w') : Holds W0 (A :: L) w' := H.call h
theorem Holds.call2 {w' : World} {A B : Ch} (H : Holds W0 L w) (h : Holds w [A, B] w') : Holds W0 (A :: B :: L) w' := H.call h

/-! ### maps, at their operations -/
section maps
variable {kt : TypeId} {κ β : Type} {Kk : KeyK P kt κ} {enc : β → Value} {f : κ → Option β} {b r N cnt : Nat} {left : κ → Bool} {cur : Option (κ × β)} {e : TypeId} {z : Value} {kx : κ} {vx : β}
theorem wl_mkmap (Kk : KeyK P kt κ) (enc : β → Value) (H : Holds W0 L w) (hn : Nat.ble (d + 1) n = true)
    (h : ∀ b w', w.heap.size ≤ b → Holds W0 (Mp Kk enc b 0 (fun _ => none) :: L) w' → wl P n ops rest Q ((d, .map (some b)) :: l) w') : wl P n ops (⟨some d, .makeMap t none, ty, pos, af, none⟩ :: rest) Q l w :=
  wl_v rfl rfl hn (w' := w.alloc (.map #[] 0)) (v := .map (some w.heap.size)) (fun a _ => by simp [execOp, run_makeMap]) (h _ _ (Nat.le_refl _) (H.makeMap Kk enc))
theorem v_look (H : Holds W0 L w) (U : Upd L (Mp Kk enc b N f) (Mp Kk enc b N f) L) (ht : P.underlying t = some (.map kt e)) (hz : ∀ W, (zeroValue e).run P W = .ok z W) (hk : Kk.ok kx) (hx : ev l x = some (.map (some b))) (hy : ev l y = some (Kk.val kx)) :
    Vs P n l ⟨some d, .lookup t x y false, ty, pos, af, none⟩ w (((f kx).map enc).getD z) := fun a ha => by
  obtain ⟨S, _, hM⟩ := H.get U
  have h := run_look hM ht hz hk false
  simp only [Bool.false_eq_true, if_false] at h
  simp [execOp, ha.eval hx, ha.eval hy, h]
theorem v_look' {v : Value} (H : Holds W0 L w) (U : Upd L (Mp Kk enc b N f) (Mp Kk enc b N f) L) (ht : P.underlying t = some (.map kt e)) (hz : ∀ W, (zeroValue e).run P W = .ok z W) (hk : Kk.ok kx) (hx : ev l x = some (.map (some b))) (hy : ev l y = some (Kk.val kx)) (he : ((f kx).map enc).getD z = v) :
    Vs P n l ⟨some d, .lookup t x y false, ty, pos, af, none⟩ w v := by subst he; exact v_look H U ht hz hk hx hy
theorem v_lookI {v : Value} (H : Holds W0 L w) (U : Upd L (It Kk enc b r N f left cnt cur) (It Kk enc b r N f left cnt cur) L) (ht : P.underlying t = some (.map kt e)) (hz : ∀ W, (zeroValue e).run P W = .ok z W) (hk : Kk.ok kx) (hx : ev l x = some (.map (some b))) (hy : ev l y = some (Kk.val kx)) (he : ((f kx).map enc).getD z = v) :
    Vs P n l ⟨some d, .lookup t x y false, ty, pos, af, none⟩ w v := fun a ha => by
  obtain ⟨S, _, hM⟩ := H.get U
  have h := run_look (It.mp S hM) ht hz hk false
  simp only [Bool.false_eq_true, if_false, he] at h
  simp [execOp, ha.eval hx, ha.eval hy, h]
theorem v_look_ok (H : Holds W0 L w) (U : Upd L (Mp Kk enc b N f) (Mp Kk enc b N f) L) (ht : P.underlying t = some (.map kt e)) (hz : ∀ W, (zeroValue e).run P W = .ok z W) (hk : Kk.ok kx) (hx : ev l x = some (.map (some b))) (hy : ev l y = some (Kk.val kx)) :
    Vs P n l ⟨some d, .lookup t x y true, ty, pos, af, none⟩ w (.tuple #[((f kx).map enc).getD z, .bool (f kx).isSome]) := fun a ha => by
  obtain ⟨S, _, hM⟩ := H.get U
  have h := run_look hM ht hz hk true
  simp only [if_true] at h
  simp [execOp, ha.eval hx, ha.eval hy, h]
theorem wl_mapset [DecidableEq κ] (H : Holds W0 L w) (U : Upd L (Mp Kk enc b N f) (Mp Kk enc b (N + 1) (fun y => if y = kx then some vx else f y)) L') (ht : P.underlying t = some (.map kt e)) (hk : Kk.ok kx) (hN : N < maxLen) {xv : Operand} (hx : ev l x = some (.map (some b))) (hy : ev l y = some (Kk.val kx)) (hv : ev l xv = some (enc vx))
    (h : ∀ w', Holds W0 L' w' → wl P n ops rest Q l w') : wl P n ops (⟨none, .mapUpdate t x y xv, ty, pos, af, none⟩ :: rest) Q l w := by
  obtain ⟨w', hrun, H', _⟩ := run_set H U ht hk hN
  exact wl_s rfl rfl (w' := w') (fun a ha => by simp [execOp, ha.eval hx, ha.eval hy, ha.eval hv, hrun]) (h w' H')
theorem wl_insert [DecidableEq κ] (H : Holds W0 L w) (U : Upd L (Mp Kk enc b N f) (Mp Kk enc b (N + 1) (fun y => if y = kx then some vx else f y)) L') (ht : P.underlying t = some (.map kt e)) (hk : Kk.ok kx) (hN : N < maxLen) {xv : Operand} (hx : ev l x = some (.map (some b))) (hy : ev l y = some (Kk.val kx)) (hv : ev l xv = some (enc vx))
    (h : ∀ w', Holds W0 L' w' → wl P n ops rest Q l w') : wl P n ops (⟨none, .insert t x y xv, ty, pos, af, none⟩ :: rest) Q l w := by
  obtain ⟨w', hrun, H', _⟩ := run_set H U ht hk hN
  exact wl_s rfl rfl (w' := w') (fun a ha => by simp [execOp, ha.eval hx, ha.eval hy, ha.eval hv, hrun]) (h w' H')
theorem wl_range {Lf : Nat → Nat → List Ch} (H : Holds W0 L w) (U : ∀ r cnt, Upd L (Mp Kk enc b N f) (It Kk enc b r N f (fun x => (f x).isSome) cnt none) (Lf r cnt)) (ht : P.underlying t = some (.map kt e)) (hn : Nat.ble (d + 1) n = true) (hx : ev l x = some (.map (some b)))
    (h : ∀ r cnt w', w.heap.size ≤ r → Holds W0 (Lf r cnt) w' → wl P n ops rest Q ((d, .pointer (some ⟨r, 0, none⟩)) :: l) w') : wl P n ops (⟨some d, .range t x, ty, pos, af, none⟩ :: rest) Q l w := by
  obtain ⟨r, cnt, w', hrun, H', h1, _, _⟩ := run_range H U ht
  exact wl_v rfl rfl hn (w' := w') (fun a ha => by simp [execOp, ha.eval hx, hrun]) (h r cnt w' h1 H')
theorem wl_next {Lf : (κ → Bool) → Nat → Option (κ × β) → List Ch} (H : Holds W0 L w) (U : ∀ left' cnt' cur', Upd L (It Kk enc b r N f left cnt cur) (It Kk enc b r N f left' cnt' cur') (Lf left' cnt' cur')) (hn : Nat.ble (d + 1) n = true) (hx : ev l x = some (.pointer (some ⟨r, 0, none⟩)))
    (h0 : (∀ x, Kk.ok x → left x = false) → wl P n ops rest Q ((d, .tuple #[.bool false]) :: l) w)
    (h1 : ∀ kx vx left' cnt' w', Kk.ok kx → left kx = true → f kx = some vx → (∀ y, Kk.ok y → (left' y = true ↔ left y = true ∧ y ≠ kx)) → cnt' < cnt → Holds W0 (Lf left' cnt' (some (kx, vx))) w' → wl P n ops rest Q ((d, .tuple #[.bool true, Kk.val kx, enc vx]) :: l) w') : wl P n ops (⟨some d, .next x false, ty, pos, af, none⟩ :: rest) Q l w := by
  rcases run_nxt H U (ty := ty) with ⟨hl, hrun⟩ | ⟨kx, vx, left', cnt', w', g1, g2, g3, g4, g5, hrun, H', _⟩
  · exact wl_v rfl rfl hn (w' := w) (fun a ha => by simp [execOp, ha.eval hx, hrun]) (h0 hl)
  · exact wl_v rfl rfl hn (w' := w') (fun a ha => by simp [execOp, ha.eval hx, hrun]) (h1 kx vx left' cnt' w' g1 g2 g3 g4 g5 H')
theorem v_entry (H : Holds W0 L w) (U : Upd L (It Kk enc b r N f left cnt (some (kx, vx))) (It Kk enc b r N f left cnt (some (kx, vx))) L) (hx : ev l x = some (.pointer (some ⟨r, 0, none⟩))) : Vs P n l ⟨some d, .entry x, ty, pos, af, none⟩ w (.tuple #[Kk.val kx, enc vx]) := fun a ha => by
  simp [execOp, ha.eval hx, run_ent H U]
end maps
end
end Go.Proofs.YtgdemplcpcacaaaFx

/-! Small facts on lists. -/
namespace Go.Proofs.YtgdemplcpcacaaaFx
open Go
theorem getD_mem {α : Type} {xs : List α} {i : Nat} {z : α} (h : i < xs.length) : xs.getD i z ∈ xs := by
  rw [List.getD_eq_getElem?_getD, List.getElem?_eq_getElem h]
  exact List.getElem_mem h
theorem take_succ' {α : Type} {xs : List α} {i : Nat} (z : α) (h : i < xs.length) : xs.take (i + 1) = xs.take i ++ [xs.getD i z] := by
  rw [List.take_succ_eq_append_getElem h, List.getD_eq_getElem?_getD, List.getElem?_eq_getElem h]
  rfl
theorem all_succ {α : Type} {xs : List α} {i : Nat} {p : α → Bool} (z : α) (h : i < xs.length) : (xs.take (i + 1)).all p = ((xs.take i).all p && p (xs.getD i z)) := by
  rw [take_succ' z h, List.all_append]
  simp
theorem all_not {α : Type} {xs : List α} {i : Nat} {p : α → Bool} (z : α) (h : i < xs.length) (hp : p (xs.getD i z) = false) : xs.all p = false := by
  rw [List.all_eq_false]
  exact ⟨_, getD_mem h, by simpa using hp⟩
theorem any_succ {α : Type} {xs : List α} {i : Nat} {p : α → Bool} (z : α) (h : i < xs.length) : (xs.take (i + 1)).any p = ((xs.take i).any p || p (xs.getD i z)) := by
  rw [take_succ' z h, List.any_append]
  simp
theorem take_all {α : Type} {xs : List α} {i : Nat} (h : ¬ ((i : Int) < xs.length)) : xs.take i = xs := List.take_of_length_le (by omega)
theorem getD_nat {α : Type} {xs : List α} {i : Nat} {z : α} : xs.getD (i : Int).toNat z = xs.getD i z := by rw [Int.toNat_natCast]
/-- The numbers of int64. -/
def I64 (x : Int) : Prop := -9223372036854775808 ≤ x ∧ x ≤ 9223372036854775807
theorem wf64 {x : Int} (h : I64 x) : (Lit.int .i64 x).wf = true := WalkArith.wf_i64 h
/-- A move: what, and its number. -/
structure Mv where
  d : Int
  n : Int
  deriving DecidableEq
def fMv : Fk Mv := ⟨2, fun m => [.int .i64 m.d, .int .i64 m.n], fun _ => rfl, fun x u hu => by
  simp only [List.mem_cons, List.not_mem_nil, or_false] at hu
  rcases hu with rfl | rfl <;> rfl⟩
def mv0 : Mv := ⟨0, 0⟩
end Go.Proofs.YtgdemplcpcacaaaFx
