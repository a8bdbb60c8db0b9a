/- Rows that are read, rows of the call's own; what operations do with them. -/
import Derived.Test.YtkpehkadammppaaSep
set_option linter.unusedVariables false
namespace Go.Proofs.YtkpehkadammppaaFx
open Go Go.RowKit

def adr : Option Addr → Addr
  | some a => a
  | none => ⟨0, 0, none⟩
theorem add_add (a : Addr) (i j : Nat) : (a.add i).add j = a.add (i + j) := by
  unfold Addr.add
  by_cases hi : i = 0 <;> by_cases hj : j = 0 <;> simp [hi, hj, Nat.add_assoc]

/-- A kind of elements: what an element's cells are, in a world. -/
structure Kn (α : Type) where
  sz : Nat
  K : World → α → List Value → Prop
  len : ∀ {w : World} {x : α} {cs : List Value}, K w x cs → cs.length = sz
  one : ∀ {w : World} {x : α} {cs : List Value}, K w x cs → ∀ u ∈ cs, u.oneCell' = true
  st : ∀ {w w' : World} {x : α} {cs : List Value}, Below w.heap.size w w' → K w x cs → K w' x cs

/-- The slice at A reads as xs. -/
structure Rd {α : Type} (d : Kn α) (w : World) (A : Option Addr) (xs : List α) : Prop where
  ad : 0 < xs.length → A = some (adr A)
  el : ∀ j x, xs[j]? = some x → ∃ cs, d.K w x cs ∧ ∀ i u, cs[i]? = some u → w.cell? ((adr A).add (j * d.sz + i)) = some u
theorem cell_below {w w' : World} (h : Below w.heap.size w w') {a : Addr} {v : Value} (hc : w.cell? a = some v) : w'.cell? a = some v := (h.cell (World.block_lt_of_cell? w a hc)).trans hc
section
variable {α : Type} {d : Kn α} {w w' : World} {A : Option Addr} {xs : List α}
theorem Rd.below (h : Rd d w A xs) (hb : Below w.heap.size w w') : Rd d w' A xs :=
  ⟨h.ad, fun j x hx => by
    obtain ⟨cs, hK, hc⟩ := h.el j x hx
    exact ⟨cs, d.st hb hK, fun i u hu => cell_below hb (hc i u hu)⟩⟩
theorem Rd.nil (d : Kn α) (w : World) (A : Option Addr) : Rd d w A [] := ⟨fun h => absurd h (by simp), fun j x hx => by simp at hx⟩
/-- Element i, its cells. -/
theorem Rd.get (h : Rd d w A xs) (z : α) {i : Int} (h0 : 0 ≤ i) (h1 : i < xs.length) : ∃ cs, d.K w (xs.getD i.toNat z) cs ∧ ∀ k u, cs[k]? = some u → w.cell? (((adr A).add (i.toNat * d.sz)).add k) = some u := by
  have hl : i.toNat < xs.length := by omega
  obtain ⟨cs, hK, hc⟩ := h.el i.toNat _ (List.getElem?_eq_getElem hl)
  refine ⟨cs, ?_, fun k u hu => by rw [add_add]; exact hc k u hu⟩
  rw [List.getD_eq_getElem?_getD, List.getElem?_eq_getElem hl]
  exact hK
theorem Rd.cells (h : Rd d w A xs) : ∃ css : List (List Value), css.length = xs.length ∧ (∀ (j : Nat) (x : α), xs[j]? = some x → ∃ cs, css[j]? = some cs ∧ d.K w x cs) ∧ ∀ (i : Nat) (u : Value), css.flatten[i]? = some u → w.cell? ((adr A).add i) = some u := by
  obtain ⟨hA, hel⟩ := h
  clear hA
  generalize ha : adr A = ad at hel
  clear ha
  induction xs generalizing ad with
  | nil => exact ⟨[], rfl, fun j x hx => by simp at hx, fun i u hu => by simp at hu⟩
  | cons x r ih =>
    obtain ⟨cs, hK, hc⟩ := hel 0 x rfl
    obtain ⟨css, h1, h2, h3⟩ := ih (ad.add d.sz) (fun j y hy => by
      obtain ⟨c, hk, hcc⟩ := hel (j + 1) y (by simpa using hy)
      refine ⟨c, hk, fun i u hu => ?_⟩
      rw [add_add, show d.sz + (j * d.sz + i) = (j + 1) * d.sz + i by rw [Nat.add_mul, Nat.one_mul]; omega]
      exact hcc i u hu)
    refine ⟨cs :: css, by simp [h1], fun j y hy => ?_, fun i u hu => ?_⟩
    · cases j with
      | zero => exact ⟨cs, rfl, by simp at hy; subst hy; exact hK⟩
      | succ j => exact h2 j y (by simpa using hy)
    · rw [List.flatten_cons] at hu
      have hl := d.len hK
      rcases Nat.lt_or_ge i cs.length with hi | hi
      · rw [List.getElem?_append_left hi] at hu
        have := hc i u hu
        rwa [Nat.zero_mul, Nat.zero_add] at this
      · rw [List.getElem?_append_right hi] at hu
        have := h3 _ u hu
        rwa [add_add, show d.sz + (i - cs.length) = i by omega] at this
end

/-- Flat elements: their cells are given by the element alone. -/
structure Fk (α : Type) where
  sz : Nat
  enc : α → List Value
  len : ∀ x, (enc x).length = sz
  one : ∀ x, ∀ u ∈ enc x, u.oneCell' = true
def Fk.kn {α : Type} (f : Fk α) : Kn α where
  sz := f.sz
  K := fun _ x cs => cs = f.enc x
  len := fun h => by rw [h, f.len]
  one := fun h => by rw [h]; exact f.one _
  st := fun _ h => h
def fInt (k : IntKind) : Fk Int := ⟨1, fun x => [.int k x], fun _ => rfl, fun _ u hu => by rw [List.mem_singleton.1 hu]; rfl⟩
def fBool : Fk Bool := ⟨1, fun x => [.bool x], fun _ => rfl, fun _ u hu => by rw [List.mem_singleton.1 hu]; rfl⟩
def fStr : Fk ByteArray := ⟨1, fun x => [.string x], fun _ => rfl, fun _ u hu => by rw [List.mem_singleton.1 hu]; rfl⟩
abbrev kInt (k : IntKind) : Kn Int := (fInt k).kn
abbrev kStr : Kn ByteArray := fStr.kn
abbrev kBool : Kn Bool := fBool.kn
/-- Slices as elements. -/
def Kn.sl {α : Type} (d : Kn α) : Kn (List α) where
  sz := 1
  K := fun w xs cs => ∃ A c, cs = [.slice A xs.length c] ∧ xs.length ≤ c ∧ Rd d w A xs
  len := fun ⟨_, _, h, _⟩ => by rw [h]; rfl
  one := fun ⟨_, _, h, _⟩ u hu => by rw [h] at hu; rw [List.mem_singleton.1 hu]; rfl
  st := fun hb ⟨A, c, h, hl, hr⟩ => ⟨A, c, h, hl, hr.below hb⟩

section
variable {α : Type} {f : Fk α} {d : Kn α} {w w' W0 : World} {A : Option Addr} {xs : List α} {L L' : List Ch} {i : Int}
theorem flat_len (f : Fk α) (xs : List α) : (xs.flatMap f.enc).length = xs.length * f.sz := by
  induction xs with
  | nil => simp
  | cons x r ih => rw [List.flatMap_cons, List.length_append, f.len, ih, List.length_cons, Nat.add_mul, Nat.one_mul, Nat.add_comm]
theorem flat_get (f : Fk α) : ∀ (xs : List α) (j : Nat) (x : α), xs[j]? = some x → ∀ i u, (f.enc x)[i]? = some u → (xs.flatMap f.enc)[j * f.sz + i]? = some u
  | [], j, x, hx, _, _, _ => by simp at hx
  | y :: r, 0, x, hx, i, u, hu => by
    simp at hx
    subst hx
    rw [List.flatMap_cons, Nat.zero_mul, Nat.zero_add, List.getElem?_append_left (List.getElem?_eq_some_iff.1 hu).1]
    exact hu
  | y :: r, j + 1, x, hx, i, u, hu => by
    rw [List.flatMap_cons, List.getElem?_append_right (by rw [f.len, Nat.add_mul]; omega), f.len, show (j + 1) * f.sz + i - f.sz = j * f.sz + i by rw [Nat.add_mul]; omega]
    exact flat_get f r j x (by simpa using hx) i u hu
theorem flat_set (f : Fk α) : ∀ (xs : List α) (j k : Nat) (x : α) (u : Value), j < xs.length → k < f.sz → (f.enc (xs.getD j x)).set k u = f.enc x → (xs.flatMap f.enc).set (j * f.sz + k) u = (xs.set j x).flatMap f.enc
  | [], j, _, _, _, hj, _, _ => by simp at hj
  | y :: r, 0, k, x, u, _, hk, he => by
    simp only [List.getD_cons_zero] at he
    rw [List.flatMap_cons, Nat.zero_mul, Nat.zero_add, List.set_append_left _ _ (by rw [f.len]; exact hk), he, List.set_cons_zero, List.flatMap_cons]
  | y :: r, j + 1, k, x, u, hj, hk, he => by
    rw [List.flatMap_cons, List.set_append_right _ _ (by rw [f.len, Nat.add_mul]; omega), f.len, show (j + 1) * f.sz + k - f.sz = j * f.sz + k by rw [Nat.add_mul]; omega, flat_set f r j k x u (by simpa using hj) hk (by simpa using he), List.set_cons_succ, List.flatMap_cons]
/-- A flat element's cell, by its place. -/
theorem Rd.at (h : Rd f.kn w A xs) (z : α) (h0 : 0 ≤ i) (h1 : i < xs.length) {k : Nat} {u : Value} (hu : (f.enc (xs.getD i.toNat z))[k]? = some u) : w.cell? (((adr A).add (i.toNat * f.sz)).add k) = some u := by
  obtain ⟨cs, rfl, hc⟩ := h.get z h0 h1
  exact hc k u hu
theorem Rd.at1 {k : IntKind} {xs : List Int} (h : Rd (kInt k) w A xs) (h0 : 0 ≤ i) (h1 : i < xs.length) : w.cell? ((adr A).add (i.toNat * 1)) = some (.int k (xs.getD i.toNat 0)) := by
  have := Rd.at (k := 0) h 0 h0 h1 rfl
  rwa [add_add] at this
theorem Rd.at1s {xs : List ByteArray} (h : Rd kStr w A xs) (h0 : 0 ≤ i) (h1 : i < xs.length) : w.cell? ((adr A).add (i.toNat * 1)) = some (.string (xs.getD i.toNat ByteArray.empty)) := by
  have := Rd.at (k := 0) h ByteArray.empty h0 h1 rfl
  rwa [add_add] at this
theorem Rd.at1b {xs : List Bool} (h : Rd kBool w A xs) (h0 : 0 ≤ i) (h1 : i < xs.length) : w.cell? ((adr A).add (i.toNat * 1)) = some (.bool (xs.getD i.toNat false)) := by
  have := Rd.at (k := 0) h false h0 h1 rfl
  rwa [add_add] at this
/-- An element that is a slice. -/
theorem Rd.atSl {xs : List (List α)} (h : Rd d.sl w A xs) (h0 : 0 ≤ i) (h1 : i < xs.length) : ∃ B c, w.cell? ((adr A).add (i.toNat * 1)) = some (.slice B (xs.getD i.toNat []).length c) ∧ (xs.getD i.toNat []).length ≤ c ∧ Rd d w B (xs.getD i.toNat []) := by
  obtain ⟨cs, ⟨B, c, rfl, hl, hr⟩, hc⟩ := h.get [] h0 h1
  refine ⟨B, c, ?_, hl, hr⟩
  have := hc 0 _ rfl
  rwa [add_add] at this

/-! ### rows of the call's own -/
theorem Holds.nilrow (H : Holds W0 L w) (e size : Nat) : Holds W0 (Raw e size (.slice none 0 0) 0 [] :: L) w := H.pure ⟨fun k hk => by simp [Value.ownBlock] at hk, by simp, .inl ⟨rfl, rfl⟩⟩
theorem Holds.raw {e size n : Nat} {v : Value} {cs : List Value} (H : Holds W0 L w) (U : Upd L (Raw e size v n cs) (Raw e size v n cs) L) : w.ownsRow 0 e size v n cs := by
  obtain ⟨_, _, _, h⟩ := H.get U
  exact h
theorem own_slice {e size n : Nat} {v : Value} {cs : List Value} (h : w.ownsRow 0 e size v n cs) : ∃ A c, v = .slice A n c ∧ n ≤ c ∧ (0 < n → A = some (adr A)) ∧ ∀ j u, cs[j]? = some u → w.cell? ((adr A).add j) = some u := by
  rcases h.2 with ⟨rfl, rfl⟩ | ⟨g, cap, cur, rfl, _, _, hn, _⟩
  · refine ⟨none, 0, rfl, Nat.le_refl _, fun h => absurd h (by simp), fun j u hu => ?_⟩
    have := h.1
    rw [Nat.zero_mul] at this
    rw [List.eq_nil_of_length_eq_zero this] at hu
    simp at hu
  · exact ⟨_, cap, rfl, hn, fun _ => rfl, fun j u hu => h.cells (g := g) rfl j u hu⟩
theorem own_max {e size n : Nat} {v : Value} {cs : List Value} (h : w.ownsRow 0 e size v n cs) : n ≤ maxLen := by
  rcases h.2 with ⟨rfl, rfl⟩ | ⟨g, cap, cur, rfl, _, _, hn, hm, _⟩
  · exact Nat.zero_le _
  · exact Nat.le_trans hn hm
/-- A row of flat elements, of the call's own. -/
abbrev Row (f : Fk α) (e : TypeId) (v : Value) (xs : List α) : Ch := Raw e f.sz v xs.length (xs.flatMap f.enc)
theorem rd_of_own {e : Nat} {n c : Nat} (h : w.ownsRow 0 e f.sz (.slice A n c) xs.length (xs.flatMap f.enc)) : n = xs.length ∧ xs.length ≤ c ∧ Rd f.kn w A xs := by
  obtain ⟨A', c', hv, hn, hA, hc⟩ := own_slice h
  injection hv with h1 h2 h3
  subst h1 h2 h3
  exact ⟨rfl, hn, hA, fun j x hx => ⟨f.enc x, rfl, fun i u hu => hc _ _ (flat_get f xs j x hx i u hu)⟩⟩
/-- Its slice, as it is read. -/
theorem Holds.row {e : Nat} {v : Value} (H : Holds W0 L w) (U : Upd L (Row f e v xs) (Row f e v xs) L) : ∃ A c, v = .slice A xs.length c ∧ xs.length ≤ c ∧ Rd f.kn w A xs := by
  have h := H.raw U
  obtain ⟨A, c, rfl, hn, hA, hc⟩ := own_slice h
  exact ⟨A, c, rfl, hn, (rd_of_own h).2.2⟩
end

section
variable {P : Program} {n : Nat} {Q : Post} {l : Fr} {w W0 : World} {L : List Ch} {ops : Array Oper} {rest : List Oper} {d : Nat} {x y : Operand} {ty t : TypeId} {pos : String} {af : Array Edge} {v : Value} {i : Int}
theorem v_idx {A : Option Addr} {m c e sz : Nat} {k : IntKind} (ht : P.underlying t = some (.slice e)) (hsz : ∀ W, (sizeOf e).run P W = .ok sz W) (hA : 0 < m → A = some (adr A)) (hx : ev l x = some (.slice A m c)) (hy : ev l y = some (.int k i)) (h0 : 0 ≤ i) (h1 : i < m) :
    Vs P n l ⟨some d, .indexAddr t x y, ty, pos, af, none⟩ w (.pointer (some ((adr A).add (i.toNat * sz)))) := by
  rw [hA (by omega)] at hx
  exact v_index ht hsz hx hy h0 h1
/-- A field of what lies in another row. -/
theorem v_fld {s : TypeId} {fs : Array Field} {f : Nat} {fd : Field} {sz : Nat} {p : Addr} (hs : P.underlying s = some (.struct fs)) (hf : fs[f]? = some fd) (hsz : ∀ W, (sizeOf fd.type).run P W = .ok sz W) (hp : 0 < sz) (hx : ev l x = some (.pointer (some p))) :
    Vs P n l ⟨some d, .fieldAddr s x f, ty, pos, af, none⟩ w (.pointer (some (p.add fd.offset))) := fun a ha => by
  have : sz ≠ 0 := by omega
  simp [execOp, ha.eval hx, Instr.fieldAt, run_underlying hs, hf, Instr.sureAddr, fieldPlace, hsz, this]
/-- The parts of a literal slice lie in a block of its own. -/
theorem wl_lit {len : Nat} {parts : Array (Nat × Operand)} {cs : List Value} {e : Nat} (H : Holds W0 L w) (hn : Nat.ble (d + 1) n = true)
    (hrun : ∀ a, Ag n l a → (Instr.buildSlice t len (parts.map fun (i, x) => (i, a.eval x))).run P w = .ok (.slice (some ⟨w.heap.size, 0, none⟩) len len) (w.alloc (.cells cs.toArray e)))
    (h : ∀ b w', w.heap.size ≤ b → Holds W0 (Blk b e cs :: L) w' → wl P n ops rest Q ((d, .slice (some ⟨b, 0, none⟩) len len) :: l) w') : wl P n ops (⟨some d, .buildSlice t len parts, ty, pos, af, none⟩ :: rest) Q l w :=
  wl_v rfl rfl hn (w' := w.alloc (.cells cs.toArray e)) (v := .slice (some ⟨w.heap.size, 0, none⟩) len len) (fun a ha => by
    simp [execOp, hrun a ha]) (h _ _ (Nat.le_refl _) (H.alloc e cs))
end

section
variable {P : Program} {n : Nat} {Q : Post} {l : Fr} {w W0 : World} {L : List Ch} {ops : Array Oper} {rest : List Oper} {d : Nat} {s x : Operand} {ty t e : TypeId} {pos : String} {af : Array Edge} {v : Value}
/-- append(s, x...), s a row of the call's own; the source is read. -/
theorem wl_append {z : Value} {size bytes m c N : Nat} {A : Option Addr} {cs news : List Value} {L' : Value → List Ch} (H : Holds W0 L w) (U : ∀ v', Upd L (Raw e size v N cs) (Raw e size v' (N + m) (cs ++ news)) (L' v')) (hn : Nat.ble (d + 1) n = true)
    (ht : P.underlying t = some (.slice e)) (hi : (P.info? e).map (fun i => (i.zero, i.size, i.bytes)) = some (some z, size, bytes)) (hz : z.cells.size = size) (hs0 : 0 < size)
    (hs : ev l s = some v) (hx : ev l x = some (.slice A m c)) (hA : 0 < m → A = some (adr A)) (hl : news.length = m * size) (hc : ∀ j u, news[j]? = some u → w.cell? ((adr A).add j) = some u) (h1 : ∀ u ∈ news, u.oneCell' = true)
    (hb : (N + m) * bytes ≤ 140737488355328) (hb0 : 0 < bytes)
    (h : ∀ v' w', Holds W0 (L' v') w' → w.heap.size ≤ w'.heap.size → wl P n ops rest Q ((d, v') :: l) w') : wl P n ops (⟨some d, .call { callee := .builtin .append, args := #[s, x], argTypes := #[t, t] }, ty, pos, af, none⟩ :: rest) Q l w := by
  obtain ⟨i0, hi1, hi2⟩ := Option.map_eq_some_iff.1 hi
  simp only [Prod.mk.injEq] at hi2
  obtain ⟨g1, g2, g3⟩ := hi2
  obtain ⟨S, hS, ⟨hSv, hown⟩, hstep⟩ := H.upd (U v)
  have hlen : N + m ≤ 140737488355328 := Nat.le_trans (Nat.le_mul_of_pos_right _ hb0) hb
  have hrun : ∃ v1 w1, (Builtin.append_ #[t, t] ty #[v, .slice A m c]).run P w = .ok v1 w1 ∧ w1.ownsRow 0 e size v1 (N + m) (cs ++ news) ∧ w.grownBy w1 v.ownBlock ∧ (v1.ownBlock = v.ownBlock ∨ v1.ownBlock = some w.heap.size) := by
    rcases A with _ | ad
    · have h0 : m = 0 := by
        rcases Nat.eq_zero_or_pos m with h0 | h0
        · exact h0
        · exact absurd (hA h0) (by simp)
      subst h0
      have hnil : news = [] := List.eq_nil_of_length_eq_zero (by simpa using hl)
      subst hnil
      refine ⟨v, w, ?_, by simpa using hown, World.grownBy.refl w _, .inl rfl⟩
      rcases hown.2 with ⟨rfl, hn⟩ | ⟨g, cap, cur, rfl, _, _, hnc, _⟩
      · simp [Builtin.append_, run_underlying ht, sizeOf, typeInfo, hi1, Builtin.lenOf, Builtin.firstCells]
      · simp [Builtin.append_, run_underlying ht, sizeOf, typeInfo, hi1, Builtin.lenOf, Builtin.firstCells, hnc, storeCells]
    · obtain ⟨v1, w1, hr, h2, h3, _, h5⟩ := run_append_own_at (P := P) w 0 t ty e i0 z size bytes ht hi1 g1 g2 g3 hz hs0 v N cs hown ad m c news hl hc h1 (by simp only [maxLen]; omega) hb (Nat.zero_le _)
      exact ⟨v1, w1, hr, h2, h3, h5⟩
  obtain ⟨v1, w1, hr, hown1, hg, hat⟩ := hrun
  refine wl_v rfl rfl hn (w' := w1) (v := v1) (fun a ha => ?_) (h v1 w1 ?_ hg.size)
  · simp [execOp, resolve, invoke, builtin, ha.eval hs, ha.eval hx, hr]
  · obtain ⟨S2, hS2, ⟨hSv2, hown2⟩, hstep2⟩ := H.upd (U v1)
    refine hstep2 w1 (fun k => S2 k ∨ (w.heap.size ≤ k ∧ k < w1.heap.size)) hg.os hg.tape hg.output hg.size (fun k hk hn => hg.block k hk (fun e => hn (hSv2 k e.symm))) (fun k hk => hk) ⟨fun k hk => ?_, hown1⟩
    rcases hat with hat | hat
    · exact .inl (hSv2 k (by rw [← hat]; exact hk))
    · rw [hat] at hk
      injection hk with hk
      subst hk
      exact .inr ⟨Nat.le_refl _, (hown1.lt _ hat).2⟩
end
end Go.Proofs.YtkpehkadammppaaFx
