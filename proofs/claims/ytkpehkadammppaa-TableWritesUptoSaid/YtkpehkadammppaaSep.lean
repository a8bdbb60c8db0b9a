/- The call's own memory as a list of chunks that share no block; what each operation does to it. -/
import Derived.Test.YtkpehkadammppaaFx
import Derived.Maps.RangeWalk
import Derived.Maps.AppendAt
import Derived.Laws.MakeOwn
import Derived.Laws.OwnMore
import Derived.Deep.AppendLies
import Derived.Below
set_option linter.unusedVariables false
namespace Go.Proofs.YtkpehkadammppaaFx
open Go Go.RowKit

/-- A chunk: what is so of a world, on a set of blocks; it stays so while these stay. -/
structure Ch where
  p : World → (Nat → Prop) → Prop
  st : ∀ {w w' : World} {S : Nat → Prop}, (∀ k, S k → w'.heap[k]? = w.heap[k]?) → p w S → p w' S

def HL : List Ch → World → (Nat → Prop) → Prop
  | [], _, _ => True
  | A :: L, w, S => ∃ S1 S2 : Nat → Prop, (∀ k, S1 k → S k) ∧ (∀ k, S2 k → S k) ∧ (∀ k, S1 k → ¬ S2 k) ∧ A.p w S1 ∧ HL L w S2
theorem HL.mono : ∀ {L : List Ch} {w : World} {S S' : Nat → Prop}, (∀ k, S k → S' k) → HL L w S → HL L w S'
  | [], _, _, _, _, _ => trivial
  | _ :: _, _, _, _, h, ⟨S1, S2, h1, h2, h3, h4, h5⟩ => ⟨S1, S2, fun k hk => h k (h1 k hk), fun k hk => h k (h2 k hk), h3, h4, h5⟩
theorem HL.st : ∀ {L : List Ch} {w w' : World} {S : Nat → Prop}, (∀ k, S k → w'.heap[k]? = w.heap[k]?) → HL L w S → HL L w' S
  | [], _, _, _, _, _ => trivial
  | A :: _, _, _, _, h, ⟨S1, S2, h1, h2, h3, h4, h5⟩ => ⟨S1, S2, h1, h2, h3, A.st (fun k hk => h k (h1 k hk)) h4, HL.st (fun k hk => h k (h2 k hk)) h5⟩
/-- L' is L but for one chunk. -/
inductive Upd : List Ch → Ch → Ch → List Ch → Prop
  | here (A B : Ch) (L : List Ch) : Upd (A :: L) A B (B :: L)
  | there {A B : Ch} {L L' : List Ch} (C : Ch) (h : Upd L A B L') : Upd (C :: L) A B (C :: L')
theorem Upd.swap {L L' : List Ch} {A B : Ch} (U : Upd L A B L') : Upd L' B A L := by
  induction U with
  | here A B L => exact .here B A L
  | there C h ih => exact .there C ih
/-- L' is L without a chunk. -/
inductive Del : List Ch → Ch → List Ch → Prop
  | here (A : Ch) (L : List Ch) : Del (A :: L) A L
  | there {A : Ch} {L L' : List Ch} (C : Ch) (h : Del L A L') : Del (C :: L) A (C :: L')
theorem HL.upd {L L' : List Ch} {A B : Ch} {w : World} (U : Upd L A B L') : ∀ {S : Nat → Prop}, HL L w S → ∃ S1 : Nat → Prop, (∀ k, S1 k → S k) ∧ A.p w S1 ∧
    ∀ (w' : World) (S1' N : Nat → Prop), (∀ k, S k → ¬ S1 k → w'.heap[k]? = w.heap[k]?) → (∀ k, N k → ¬ S k) → (∀ k, S1' k → S1 k ∨ N k) → B.p w' S1' → HL L' w' (fun k => S k ∨ N k) := by
  induction U with
  | here A B L =>
    rintro S ⟨S1, S2, h1, h2, h3, h4, h5⟩
    exact ⟨S1, h1, h4, fun w' S1' N hk hN hs hB => ⟨S1', S2, fun k hk => (hs k hk).imp (h1 k) id, fun k hk => .inl (h2 k hk), fun k hk hk2 => by
      rcases hs k hk with h | h
      · exact h3 k h hk2
      · exact hN k h (h2 k hk2), hB, HL.st (fun k hk2 => hk k (h2 k hk2) (fun h => h3 k h hk2)) h5⟩⟩
  | there C h ih =>
    rintro S ⟨S1, S2, h1, h2, h3, h4, h5⟩
    obtain ⟨T, hT, hA, hstep⟩ := ih h5
    refine ⟨T, fun k hk => h2 k (hT k hk), hA, fun w' S1' N hk hN hs hB => ⟨S1, fun k => S2 k ∨ N k, fun k hk => .inl (h1 k hk), fun k hk => hk.imp (h2 k) id, fun k hk hk2 => ?_, C.st (fun k hk1 => hk k (h1 k hk1) (fun h => h3 k hk1 (hT k h))) h4,
      hstep w' S1' N (fun k hk2 hn => hk k (h2 k hk2) hn) (fun k hn h => hN k hn (h2 k h)) hs hB⟩⟩
    rcases hk2 with h | h
    · exact h3 k hk h
    · exact hN k h (h1 k hk)
theorem HL.del {L L' : List Ch} {A : Ch} {w : World} (D : Del L A L') : ∀ {S : Nat → Prop}, HL L w S → HL (A :: L') w S := by
  induction D with
  | here A L => exact fun h => h
  | there C h ih =>
    rintro S ⟨S1, S2, h1, h2, h3, h4, h5⟩
    obtain ⟨T1, T2, g1, g2, g3, g4, g5⟩ := ih h5
    exact ⟨T1, fun k => S k ∧ ¬ T1 k, fun k hk => h2 k (g1 k hk), fun k hk => hk.1, fun k hk hk2 => hk2.2 hk, g4, S1, T2, fun k hk => ⟨h1 k hk, fun ht => h3 k hk (g1 k ht)⟩, fun k hk => ⟨h2 k (g2 k hk), fun ht => g3 k ht hk⟩, fun k hk hk2 => h3 k hk (g2 k hk2), h4, g5⟩

/-- Since W0 the world has kept what was there; what is new holds the chunks. -/
structure Holds (W0 : World) (L : List Ch) (w : World) : Prop where
  old : Below W0.heap.size W0 w
  hl : HL L w (fun k => W0.heap.size ≤ k ∧ k < w.heap.size)
section
variable {W0 w w' : World} {L L' : List Ch} {A B : Ch}
theorem Holds.start (w : World) : Holds w [] w := ⟨Below.refl _ _, trivial⟩
theorem Holds.size (h : Holds W0 L w) : W0.heap.size ≤ w.heap.size := h.old.size
theorem Holds.below (h : Holds W0 L w) (hb : Below w.heap.size w w') : Holds W0 L w' :=
  ⟨h.old.trans (hb.mono h.size), HL.mono (fun _ hk => ⟨hk.1, Nat.lt_of_lt_of_le hk.2 hb.size⟩) (HL.st (fun k hk => hb.block k hk.2) h.hl)⟩
theorem Holds.drew (h : Holds W0 L w) : Holds W0 L w.drew := h.below (Below.refl _ _).drew
/-- A chunk in what is new. -/
theorem Holds.push' (h : Holds W0 L w) (hb : Below w.heap.size w w') {S : Nat → Prop} (hS : ∀ k, S k → w.heap.size ≤ k ∧ k < w'.heap.size) (hA : A.p w' S) : Holds W0 (A :: L) w' :=
  ⟨h.old.trans (hb.mono h.size), S, fun k => W0.heap.size ≤ k ∧ k < w.heap.size, fun k hk => ⟨Nat.le_trans h.size (hS k hk).1, (hS k hk).2⟩, fun _ hk => ⟨hk.1, Nat.lt_of_lt_of_le hk.2 hb.size⟩, fun k hk hk2 => Nat.lt_irrefl _ (Nat.lt_of_lt_of_le hk2.2 (hS k hk).1), hA, HL.st (fun k hk => hb.block k hk.2) h.hl⟩
theorem Holds.push (h : Holds W0 L w) (hb : Below w.heap.size w w') (hA : A.p w' (fun k => w.heap.size ≤ k ∧ k < w'.heap.size)) : Holds W0 (A :: L) w' := h.push' hb (fun _ hk => hk) hA
/-- What a call left is new. -/
theorem HL.app : ∀ {L1 L2 : List Ch} {w : World} {S1 S2 S : Nat → Prop}, (∀ k, S1 k → S k) → (∀ k, S2 k → S k) → (∀ k, S1 k → ¬ S2 k) → HL L1 w S1 → HL L2 w S2 → HL (L1 ++ L2) w S
  | [], _, _, _, _, _, _, h2, _, _, g => HL.mono h2 g
  | _ :: _, _, _, _, _, _, h1, h2, h3, ⟨T1, T2, a1, a2, a3, a4, a5⟩, g => ⟨T1, fun k => _ ∨ _, fun k hk => h1 k (a1 k hk), fun k hk => hk.elim (fun h => h1 k (a2 k h)) (h2 k), fun k hk hk2 => hk2.elim (a3 k hk) (h3 k (a1 k hk)), a4, HL.app (fun k hk => .inl hk) (fun k hk => .inr hk) (fun k hk => h3 k (a2 k hk)) a5 g⟩
theorem Holds.call {C : List Ch} (h : Holds W0 L w) (hc : Holds w C w') : Holds W0 (C ++ L) w' :=
  ⟨h.old.trans (hc.old.mono h.size), HL.app (fun k hk => ⟨Nat.le_trans h.size hk.1, hk.2⟩) (fun k hk => ⟨hk.1, Nat.lt_of_lt_of_le hk.2 hc.old.size⟩) (fun k hk hk2 => Nat.lt_irrefl _ (Nat.lt_of_lt_of_le hk2.2 hk.1)) hc.hl (HL.st (fun k hk => hc.old.block k hk.2) h.hl)⟩
theorem Holds.pure (h : Holds W0 L w) (hA : A.p w (fun _ => False)) : Holds W0 (A :: L) w :=
  ⟨h.old, fun _ => False, _, fun _ hk => hk.elim, fun _ hk => hk, fun _ hk => hk.elim, hA, h.hl⟩
theorem Holds.upd (U : Upd L A B L') (h : Holds W0 L w) : ∃ S : Nat → Prop, (∀ k, S k → W0.heap.size ≤ k ∧ k < w.heap.size) ∧ A.p w S ∧
    ∀ (w' : World) (S' : Nat → Prop), w'.os = w.os → w'.tape = w.tape → w'.output = w.output → w.heap.size ≤ w'.heap.size → (∀ k, k < w.heap.size → ¬ S k → w'.heap[k]? = w.heap[k]?) → (∀ k, S' k → S k ∨ (w.heap.size ≤ k ∧ k < w'.heap.size)) → B.p w' S' → Holds W0 L' w' := by
  obtain ⟨S, hS, hA, hstep⟩ := HL.upd U h.hl
  refine ⟨S, hS, hA, fun w' S' e1 e2 e3 hsz hk hs hB => ⟨h.old.trans ⟨e1, e2, e3, hsz, fun k hk0 => hk k (Nat.lt_of_lt_of_le hk0 h.size) (fun hSk => Nat.lt_irrefl _ (Nat.lt_of_lt_of_le hk0 (hS k hSk).1))⟩, ?_⟩⟩
  refine HL.mono ?_ (hstep w' S' (fun k => w.heap.size ≤ k ∧ k < w'.heap.size) (fun k hkS hn => hk k hkS.2 hn) (fun k hN hkS => Nat.lt_irrefl _ (Nat.lt_of_lt_of_le hkS.2 hN.1)) hs hB)
  rintro k (hk | hk)
  · exact ⟨hk.1, Nat.lt_of_lt_of_le hk.2 hsz⟩
  · exact ⟨Nat.le_trans h.size hk.1, hk.2⟩
theorem Holds.get (U : Upd L A A L) (h : Holds W0 L w) : ∃ S : Nat → Prop, (∀ k, S k → W0.heap.size ≤ k ∧ k < w.heap.size) ∧ A.p w S :=
  let ⟨S, hS, hA, _⟩ := h.upd U; ⟨S, hS, hA⟩
theorem Holds.turn (D : Del L A L') (h : Holds W0 L w) : Holds W0 (A :: L') w := ⟨h.old, HL.del D h.hl⟩
theorem Holds.tail (h : Holds W0 (A :: L) w) : Holds W0 L w := by
  obtain ⟨ho, S1, S2, _, h2, _, _, h5⟩ := h
  exact ⟨ho, HL.mono h2 h5⟩
theorem Holds.drop (D : Del L A L') (h : Holds W0 L w) : Holds W0 L' w := (h.turn D).tail
/-- The first two chunks are one. -/
theorem Holds.merge {C : Ch} (hm : ∀ S1 S2 : Nat → Prop, (∀ k, S1 k → ¬ S2 k) → A.p w S1 → B.p w S2 → C.p w (fun k => S1 k ∨ S2 k)) (h : Holds W0 (A :: B :: L) w) : Holds W0 (C :: L) w := by
  obtain ⟨ho, S1, S2, h1, h2, h3, h4, T1, T2, g1, g2, g3, g4, g5⟩ := h
  exact ⟨ho, fun k => S1 k ∨ T1 k, T2, fun k hk => hk.elim (h1 k) (fun h => h2 k (g1 k h)), fun k hk => h2 k (g2 k hk), fun k hk hk2 => hk.elim (fun h => h3 k h (g2 k hk2)) (fun h => g3 k h hk2), hm S1 T1 (fun k hk hk2 => h3 k hk (g1 k hk2)) h4 g4, g5⟩
theorem Holds.head_imp (hm : ∀ S, A.p w S → B.p w S) (h : Holds W0 (A :: L) w) : Holds W0 (B :: L) w := by
  obtain ⟨ho, S1, S2, h1, h2, h3, h4, h5⟩ := h
  exact ⟨ho, S1, S2, h1, h2, h3, hm _ h4, h5⟩
theorem Holds.imp (U : Upd L A B L') (h : Holds W0 L w) (hm : ∀ S, A.p w S → B.p w S) : Holds W0 L' w := by
  obtain ⟨S, hS, hA, hstep⟩ := h.upd U
  exact hstep w S rfl rfl rfl (Nat.le_refl _) (fun _ _ _ => rfl) (fun _ hk => .inl hk) (hm S hA)
/-- Old memory. -/
theorem Holds.cell (h : Holds W0 L w) {p : Addr} {v : Value} (hc : W0.cell? p = some v) : w.cell? p = some v := (h.old.cell (World.block_lt_of_cell? W0 p hc)).trans hc
end

/-! ### chunks -/
/-- A block known whole. -/
def Blk (b : Nat) (t : TypeId) (cs : List Value) : Ch where
  p := fun w S => S b ∧ w.heap[b]? = some (.cells cs.toArray t (0, 0))
  st := fun h hp => ⟨hp.1, (h b hp.1).trans hp.2⟩
/-- A row of the call's own: n elements of size cells each. -/
def Raw (e : TypeId) (size : Nat) (v : Value) (n : Nat) (xs : List Value) : Ch where
  p := fun w S => (∀ k, v.ownBlock = some k → S k) ∧ w.ownsRow 0 e size v n xs
  st := fun h hp => ⟨hp.1, by
    obtain ⟨h1, h2⟩ := hp.2
    refine ⟨h1, ?_⟩
    rcases h2 with h2 | ⟨g, cap, cur, rfl, hg, hh, r⟩
    · exact .inl h2
    · exact .inr ⟨g, cap, cur, rfl, hg, (h g (hp.1 g (by simp [Value.ownBlock]))).trans hh, r⟩⟩
theorem blk_alloc (w : World) (t : TypeId) (cs : Array Value) : (w.alloc (.cells cs t)).heap[w.heap.size]? = some (.cells cs t (0, 0)) := by
  show (w.heap.push _)[w.heap.size]? = _
  simp
theorem below_alloc' (w : World) (o : Obj) : Below w.heap.size w (w.alloc o) := (Below.refl _ _).alloc (Nat.le_refl _) o
theorem Holds.alloc {W0 w : World} {L : List Ch} (h : Holds W0 L w) (t : TypeId) (cs : List Value) : Holds W0 (Blk w.heap.size t cs :: L) (w.alloc (.cells cs.toArray t)) :=
  h.push (below_alloc' w _) ⟨⟨Nat.le_refl _, by simp⟩, blk_alloc w t cs.toArray⟩

section
variable {P : Program} {n : Nat} {Q : Post} {l : Fr} {w W0 : World} {L L' : List Ch} {ops : Array Oper} {rest : List Oper} {d : Nat} {x y : Operand} {ty t : TypeId} {pos : String} {af : Array Edge} {v : Value}
/-- A value's cells. -/
theorem wl_alloc {z : Value} {cs : List Value} (H : Holds W0 L w) (hn : Nat.ble (d + 1) n = true) (hz : ∀ W, (zeroValue t).run P W = .ok z W) (hc : z.cells = cs.toArray)
    (h : ∀ b w', w.heap.size ≤ b → Holds W0 (Blk b t cs :: L) w' → wl P n ops rest Q ((d, .pointer (some ⟨b, 0, none⟩)) :: l) w') : wl P n ops (⟨some d, .alloc t, ty, pos, af, none⟩ :: rest) Q l w :=
  wl_v rfl rfl hn (w' := w.alloc (.cells cs.toArray t)) (v := .pointer (some ⟨w.heap.size, 0, none⟩)) (fun a _ => by
    simp [execOp, Instr.alloc, hz, newVar, newRow, hc]) (h _ _ (Nat.le_refl _) (H.alloc t cs))
theorem wl_box {cs : List Value} (H : Holds W0 L w) (hn : Nat.ble (d + 1) n = true) (hx : ev l x = some v) (hc : v.cells = cs.toArray)
    (h : ∀ b w', w.heap.size ≤ b → Holds W0 (Blk b t cs :: L) w' → wl P n ops rest Q ((d, .pointer (some ⟨b, 0, none⟩)) :: l) w') : wl P n ops (⟨some d, .box t x, ty, pos, af, none⟩ :: rest) Q l w :=
  wl_v rfl rfl hn (w' := w.alloc (.cells cs.toArray t)) (v := .pointer (some ⟨w.heap.size, 0, none⟩)) (fun a ha => by
    simp [execOp, Instr.box, newVar, newRow, ha.eval hx, hc]) (h _ _ (Nat.le_refl _) (H.alloc t cs))

/-! ### what a type's variables are: one cell, or a struct's cells -/
structure One (P : Program) (t : TypeId) : Prop where
  agg : ∀ W, (isAgg t).run P W = .ok false W
  size : ∀ W, (sizeOf t).run P W = .ok 1 W
structure Agg (P : Program) (t : TypeId) (k : Nat) : Prop where
  agg : ∀ W, (isAgg t).run P W = .ok true W
  size : ∀ W, (sizeOf t).run P W = .ok k W
theorem one_of {t : TypeId} {ds : TypeDesc} (hu : P.underlying t = some ds) (hd : (match ds with | .struct _ | .array _ _ => true | _ => false) = false) (hi : (P.info? t).map (·.size) = some 1) : One P t := by
  obtain ⟨i, hi1, hi2⟩ := Option.map_eq_some_iff.1 hi
  refine ⟨fun W => ?_, fun W => ?_⟩
  · simp only [isAgg, Sem.run_bind, run_underlying hu, Result.andThen_ok]
    cases ds <;> first | rfl | (simp at hd)
  · simp [sizeOf, typeInfo, hi1, hi2]
theorem agg_of {t : TypeId} {fs : Array Field} {k : Nat} (hu : P.underlying t = some (.struct fs)) (hi : (P.info? t).map (·.size) = some k) : Agg P t k := by
  obtain ⟨i, hi1, hi2⟩ := Option.map_eq_some_iff.1 hi
  refine ⟨fun W => ?_, fun W => ?_⟩
  · simp only [isAgg, Sem.run_bind, run_underlying hu, Result.andThen_ok]
    rfl
  · simp [sizeOf, typeInfo, hi1, hi2]
theorem zero_of {t : TypeId} {z : Value} (hi : (P.info? t).map (·.zero) = some (some z)) : ∀ W, (zeroValue t).run P W = .ok z W := fun W => by
  obtain ⟨i, hi1, hi2⟩ := Option.map_eq_some_iff.1 hi
  simp [zeroValue, typeInfo, hi1, hi2]

/-! ### loads -/
variable {p : Addr} {b off k : Nat} {cs cs' : List Value}
theorem v_load (hc : One P t) (hx : ev l x = some (.pointer (some p))) (hcell : w.cell? p = some v) : Vs P n l ⟨some d, .load t x, ty, pos, af, none⟩ w v := fun a ha => by
  simp [execOp, ha.eval hx, Instr.loadAt, Instr.sureAddr, loadVar, hc.agg, hcell, load, Sem.run]
theorem run_loadVarN (hc : Agg P t k) (hl : cs.length = k) (hcells : ∀ j v, cs[j]? = some v → w.cell? (p.add j) = some v) : (loadVar t p).run P w = .ok (.agg cs.toArray) w := by
  subst hl
  simp [loadVar, hc.agg, hc.size, run_loadCells_list w p cs hcells]
theorem run_loadVar1 (hc : One P t) (hcell : w.cell? p = some v) : (loadVar t p).run P w = .ok v w := by
  simp [loadVar, hc.agg, hcell, load, Sem.run]
theorem v_loadN (hc : Agg P t k) (hx : ev l x = some (.pointer (some p))) (hl : cs.length = k) (hcells : ∀ j v, cs[j]? = some v → w.cell? (p.add j) = some v) : Vs P n l ⟨some d, .load t x, ty, pos, af, none⟩ w (.agg cs.toArray) := fun a ha => by
  simp [execOp, ha.eval hx, Instr.loadAt, Instr.sureAddr, run_loadVarN hc hl hcells]
theorem cell_blk (h : w.heap[b]? = some (.cells cs.toArray t (0, 0))) (j : Nat) : w.cell? ⟨b, j, none⟩ = cs[j]? := by
  simp [World.cell?, h]
theorem Holds.blk (H : Holds W0 L w) (U : Upd L (Blk b t cs) (Blk b t cs) L) : w.heap[b]? = some (.cells cs.toArray t (0, 0)) := by
  obtain ⟨_, _, _, h⟩ := H.get U
  exact h
theorem Holds.at (H : Holds W0 L w) (U : Upd L (Blk b t cs) (Blk b t cs) L) (hv : cs[off]? = some v) : w.cell? ⟨b, off, none⟩ = some v := by rw [cell_blk (H.blk U), hv]
theorem Holds.ats (H : Holds W0 L w) (U : Upd L (Blk b t cs) (Blk b t cs) L) : ∀ j v, cs[j]? = some v → w.cell? ((⟨b, 0, none⟩ : Addr).add j) = some v := fun j v hv => by
  rw [Addr.add_lit, Nat.zero_add]
  exact H.at U hv
theorem cut_eq : ∀ {cs cs' : List Value} {off k : Nat}, (cs.drop off).take k = cs' → ∀ j v, cs'[j]? = some v → cs[off + j]? = some v := fun h j v hv => by
  subst h
  rw [List.getElem?_take] at hv
  split at hv
  · rwa [List.getElem?_drop] at hv
  · cases hv
/-- A struct inside a block. -/
theorem Holds.atsN (H : Holds W0 L w) (U : Upd L (Blk b t cs) (Blk b t cs) L) (hcut : (cs.drop off).take k = cs') : ∀ j v, cs'[j]? = some v → w.cell? ((⟨b, off, none⟩ : Addr).add j) = some v := fun j v hv => by
  rw [Addr.add_lit]
  exact H.at U (cut_eq hcut j v hv)

/-! ### stores into a block -/
/-- cs' is cs with vs from off on. -/
inductive Put : List Value → Nat → List Value → List Value → Prop
  | nil (cs : List Value) : Put cs 0 [] cs
  | here {c : Value} {cs vs cs' : List Value} (v : Value) (h : Put cs 0 vs cs') : Put (c :: cs) 0 (v :: vs) (v :: cs')
  | there {c : Value} {cs vs cs' : List Value} {off : Nat} (h : Put cs off vs cs') : Put (c :: cs) (off + 1) vs (c :: cs')
theorem Put.first {cs vs cs' : List Value} {off : Nat} {v : Value} (h : Put cs off (v :: vs) cs') : off < cs.length ∧ Put (cs.set off v) (off + 1) vs cs' := by
  generalize hvs : v :: vs = ws at h
  induction h with
  | nil => cases hvs
  | here u h => cases hvs; exact ⟨by simp, .there h⟩
  | there h ih =>
    obtain ⟨h1, h2⟩ := ih hvs
    exact ⟨by simpa using h1, .there h2⟩
theorem Put.last {cs cs' : List Value} {off : Nat} (h : Put cs off [] cs') : cs' = cs := by
  generalize hvs : ([] : List Value) = ws at h
  induction h with
  | nil => rfl
  | here u h => cases hvs
  | there h ih => rw [ih hvs]
theorem run_storeCells_blk : ∀ (vs : List Value) (i : Nat) (w : World) (cs cs' : List Value), w.heap[b]? = some (.cells cs.toArray t (0, 0)) → Put cs (off + i) vs cs' → (∀ u ∈ vs, u.oneCell' = true) →
    ∃ w', (storeCells ⟨b, off, none⟩ vs i).run P w = .ok () w' ∧ w'.heap[b]? = some (.cells cs'.toArray t (0, 0)) ∧ (∀ k, k ≠ b → w'.heap[k]? = w.heap[k]?) ∧ w'.heap.size = w.heap.size ∧ w'.os = w.os ∧ w'.tape = w.tape ∧ w'.output = w.output
  | [], i, w, cs, cs', hb, hp, _ => ⟨w, by simp [storeCells], by rw [hp.last]; exact hb, fun _ _ => rfl, rfl, rfl, rfl, rfl⟩
  | v :: vs, i, w, cs, cs', hb, hp, h1 => by
    obtain ⟨hlt, hp'⟩ := hp.first
    have hcell : w.cell? ⟨b, off + i, none⟩ = cs[off + i]? := cell_blk hb _
    rw [List.getElem?_eq_getElem hlt] at hcell
    have hfr : w.frozen? ⟨b, off + i, none⟩ = false := by simp [World.frozen?, hb]
    have hb' : (w.setCell ⟨b, off + i, none⟩ v).heap[b]? = some (.cells (cs.set (off + i) v).toArray t (0, 0)) := by simp [World.setCell, Array.getElem?_modify, hb]
    obtain ⟨w', hr, g1, g2, g3, g4, g5, g6⟩ := run_storeCells_blk vs (i + 1) _ _ cs' hb' (by rw [← Nat.add_assoc]; exact hp') (fun u hu => h1 u (List.mem_cons_of_mem _ hu))
    refine ⟨w', ?_, g1, fun k hk => (g2 k hk).trans (Below.heap_setCell w ⟨b, off + i, none⟩ v k hk), by rw [g3]; simp, g4, g5, g6⟩
    simp only [storeCells, Sem.run_bind, Addr.add_lit, run_store P w _ v .plain (h1 v List.mem_cons_self), hcell, hfr, Bool.false_eq_true, if_false, Result.andThen_ok]
    exact hr
theorem wl_store {vs : List Value} (H : Holds W0 L w) (U : Upd L (Blk b t cs) (Blk b t cs') L') {tv : TypeId} (hsz : ∀ W, (sizeOf tv).run P W = .ok k W) (hx : ev l x = some (.pointer (some ⟨b, off, none⟩))) (hy : ev l y = some v) (hc : v.cells = vs.toArray) (hk : vs.length = k) (h1 : vs.all Value.oneCell' = true)
    (hp : Put cs off vs cs') (h : ∀ w', Holds W0 L' w' → w.heap.size ≤ w'.heap.size → wl P n ops rest Q l w') : wl P n ops (⟨none, .store tv x y, ty, pos, af, none⟩ :: rest) Q l w := by
  obtain ⟨S, hS, ⟨hSb, hb⟩, hstep⟩ := H.upd U
  obtain ⟨w', hr, g1, g2, g3, g4, g5, g6⟩ := run_storeCells_blk (P := P) (t := t) (off := off) vs 0 w cs cs' hb hp (fun u hu => List.all_eq_true.1 h1 u hu)
  refine wl_s (w' := w') rfl rfl (fun a ha => ?_) (h w' (hstep w' S g4 g5 g6 (by omega) (fun k hk hn => g2 k (fun e => hn (e ▸ hSb))) (fun k hk => .inl hk) ⟨hSb, g1⟩) (by omega))
  simp [execOp, ha.eval hx, ha.eval hy, Instr.storeAt, Instr.sureAddr, storeVar, hsz, hc, hk, hr]
end
end Go.Proofs.YtkpehkadammppaaFx
