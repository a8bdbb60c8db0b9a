/- States reached, step by step: plainly. Edges listed, so far: plainly. Does every way to a state end with a row of symbols? (the document's) Is a state as it must be? (the document's) States reached anew from one. An edge of a shift. -/
import Derived.Test.YtkpehkadammppaaK02
import Derived.Test.YtkpehkadammppaaProg
import Derived.Test.YtkpehkadammppaaK03
set_option linter.unusedVariables false
set_option linter.unusedSimpArgs false
/-! States reached, step by step: plainly. -/
namespace Go.Proofs.YtkpehkadammppaaFx
open Go Go.RowKit
/-- So many are not marked. -/
def cntF : List Bool → Nat
  | [] => 0
  | b :: r => (if b then 0 else 1) + cntF r
theorem cntF_set : ∀ {l : List Bool} {i : Nat}, i < l.length → l.getD i false = false → cntF (l.set i true) + 1 = cntF l
  | [], _, h, _ => by simp at h
  | b :: r, 0, _, h => by
    have hb : b = false := h
    subst hb
    simp only [List.set_cons_zero, cntF, if_true]
    simp
    omega
  | b :: r, i + 1, hi, h => by
    have := cntF_set (l := r) (i := i) (by simpa using hi) h
    rw [List.set_cons_succ, cntF, cntF]
    omega
theorem cntF_le : ∀ l : List Bool, cntF l ≤ l.length
  | [] => Nat.le_refl _
  | b :: r => by
    have := cntF_le r
    rw [cntF, List.length_cons]
    split <;> omega
variable {g : Pl} {t : Tb} {s k k' : Nat} {M0 M : List Bool} {fr : Bool}
/-- The steps of a state marked: by its first moves and gotos. -/
structure FrI (g : Pl) (t : Tb) (s : Nat) (M0 : List Bool) (k k' : Nat) (M : List Bool) (fr : Bool) : Prop where
  len : M.length = M0.length
  up : ∀ q : Nat, M0.getD q false = true → M.getD q false = true
  new : ∀ q : Nat, M.getD q false = true → M0.getD q false = true ∨ ∃ x, Stp g t s x q
  all : ∀ (x : Int) (q : Nat), StM g t s k x q ∨ StG g t s k' x q → M.getD q false = true
  same : fr = false → M = M0
  more : fr = true → cntF M < cntF M0
theorem FrI.start (M0 : List Bool) : FrI g t s M0 0 0 M0 false :=
  ⟨rfl, fun _ h => h, fun _ h => .inl h, fun x q h => h.elim (fun h => absurd h (stm_zero _ _)) (fun h => absurd h (stg_zero _ _)), fun _ => rfl, fun h => by cases h⟩
theorem FrI.cong {j j' : Nat} (h : FrI g t s M0 k k' M fr) (hs : ∀ x q, (StM g t s j x q ∨ StG g t s j' x q) → StM g t s k x q ∨ StG g t s k' x q) : FrI g t s M0 j j' M fr := ⟨h.len, h.up, h.new, fun x q hh => h.all x q (hs x q hh), h.same, h.more⟩
/-- One step more, to what has a mark. -/
theorem FrI.had {j j' q0 : Nat} (h : FrI g t s M0 k k' M fr) (hs : ∀ x q, (StM g t s j x q ∨ StG g t s j' x q) → (StM g t s k x q ∨ StG g t s k' x q) ∨ q = q0) (hq : M.getD q0 false = true) : FrI g t s M0 j j' M fr :=
  ⟨h.len, h.up, h.new, fun x q hh => (hs x q hh).elim (h.all x q) fun e => e ▸ hq, h.same, h.more⟩
theorem FrI.set {j j' q0 : Nat} {x0 : Int} (h : FrI g t s M0 k k' M fr) (hs : ∀ x q, (StM g t s j x q ∨ StG g t s j' x q) → (StM g t s k x q ∨ StG g t s k' x q) ∨ q = q0) (hq : M.getD q0 false = false) (hl : q0 < M.length) (hst : Stp g t s x0 q0) : FrI g t s M0 j j' (M.set q0 true) true := by
  refine ⟨by rw [List.length_set]; exact h.len, fun q hq' => ?_, fun q hq' => ?_, fun x q hh => ?_, fun h => absurd h Bool.noConfusion, fun _ => ?_⟩
  · rw [set_get hl]
    split
    · rfl
    · exact h.up q hq'
  · rw [set_get hl] at hq'
    split at hq'
    · rename_i e
      exact .inr ⟨x0, e ▸ hst⟩
    · exact h.new q hq'
  · rw [set_get hl]
    split
    · rfl
    · rename_i e
      exact (hs x q hh).elim (h.all x q) fun e2 => absurd e2 e
  · have h1 := cntF_set hl hq
    cases hf : fr
    · have := h.same hf
      rw [this] at h1 ⊢
      omega
    · have := h.more hf
      omega
/-- What a state's steps leave. -/
structure FromR (g : Pl) (t : Tb) (s : Nat) (M0 M : List Bool) (fr : Bool) : Prop where
  len : M.length = M0.length
  up : ∀ q : Nat, M0.getD q false = true → M.getD q false = true
  new : ∀ q : Nat, M.getD q false = true → M0.getD q false = true ∨ ∃ x, Stp g t s x q
  all : ∀ (x : Int) (q : Nat), Stp g t s x q → M.getD q false = true
  same : fr = false → M = M0
  more : fr = true → cntF M < cntF M0
theorem FrI.fin (h : FrI g t s M0 k k' M fr) (hk : (t.mv.getD s []).length ≤ k) (hk' : (t.go.getD s []).length ≤ k') : FromR g t s M0 M fr :=
  ⟨h.len, h.up, h.new, fun x q hh => h.all x q ((stp_iff hk hk').1 hh), h.same, h.more⟩
/-- One round over all states, so far. -/
structure RdI (g : Pl) (t : Tb) (M0 : List Bool) (i : Nat) (M : List Bool) (fr : Bool) : Prop where
  len : M.length = t.mv.length
  h0 : M.getD 0 false = true
  rch : ∀ q : Nat, M.getD q false = true → Rch g t q
  cl : fr = false → M = M0 ∧ ∀ s : Nat, s < i → M.getD s false = true → ∀ x q, Stp g t s x q → M.getD q false = true
  more : fr = true → cntF M < cntF M0
theorem RdI.next {i : Nat} {M' : List Bool} {fr' fr2 : Bool} (h : RdI g t M0 i M fr) (hi : M.getD i false = true) (hF : FromR g t i M M' fr') (h2 : fr2 = (fr' || fr)) : RdI g t M0 (i + 1) M' fr2 := by
  refine ⟨hF.len.trans h.len, hF.up 0 h.h0, fun q hq => (hF.new q hq).elim (h.rch q) fun ⟨x, hx⟩ => .step (h.rch i hi) hx, fun e => ?_, fun e => ?_⟩
  · subst h2
    rw [Bool.or_eq_false_iff] at e
    have h3 := hF.same e.1
    have h4 := hF.all
    subst h3
    obtain ⟨h5, h6⟩ := h.cl e.2
    refine ⟨h5, fun s hs hm x q hst => ?_⟩
    rcases (by omega : s < i ∨ s = i) with e3 | rfl
    · exact h6 s e3 hm x q hst
    · exact h4 x q hst
  · subst h2
    cases hf : fr'
    · have h3 := hF.same hf
      rw [hf, Bool.false_or] at e
      rw [h3]
      exact h.more e
    · have h3 := hF.more hf
      cases hf2 : fr
      · rw [(h.cl hf2).1] at h3
        exact h3
      · have := h.more hf2
        omega
theorem RdI.skip {i : Nat} (h : RdI g t M0 i M fr) (hi : M.getD i false = false) : RdI g t M0 (i + 1) M fr :=
  ⟨h.len, h.h0, h.rch, fun e => ⟨(h.cl e).1, fun s hs hm => by
    rcases (by omega : s < i ∨ s = i) with e3 | rfl
    · exact (h.cl e).2 s e3 hm
    · rw [hi] at hm; cases hm⟩, h.more⟩
theorem RdI.done {i : Nat} (h : RdI g t M0 i M false) (hi : t.mv.length ≤ i) (hf : Fit2 g t) : ∀ q : Nat, M.getD q false = true ↔ Rch g t q := fun q =>
  ⟨h.rch q, fun hq => marks_rch (M := fun q => M.getD q false = true) h.h0 (fun s x q hs hst => (h.cl rfl).2 s (by have := hf.rch (h.rch s hs); omega) hs x q hst) hq⟩
/-- An edge. -/
structure Ed where
  fr : Int
  sy : Int
  to : Int
def fEd : Fk Ed := ⟨3, fun e => [.int .i64 e.fr, .int .i64 e.sy, .int .i64 e.to], fun _ => rfl, fun x u hu => by
  simp only [List.mem_cons, List.not_mem_nil, or_false] at hu
  rcases hu with rfl | rfl | rfl <;> rfl⟩
def ed0 : Ed := ⟨0, 0, 0⟩
/-- All edges are there. -/
def EdsOk (g : Pl) (t : Tb) (E : List Ed) : Prop := ∀ e : Ed, e ∈ E ↔ ∃ s q : Nat, e.fr = s ∧ e.to = q ∧ Edg g t s e.sy q
/-- Marks of states. -/
structure MkB (n : Nat) (M : List Bool) (P : Nat → Prop) : Prop where
  len : M.length = n
  iff : ∀ q, q < n → (M.getD q false = true ↔ P q)
theorem MkB.make (n : Nat) : MkB n (List.replicate n false) (fun _ => False) := ⟨by simp, fun q hq => by
  rw [List.getD_eq_getElem?_getD, List.getElem?_replicate, if_pos hq]
  simp⟩
theorem MkB.set {n q0 : Nat} {M : List Bool} {P : Nat → Prop} (h : MkB n M P) (hq : q0 < n) : MkB n (M.set q0 true) (fun q => P q ∨ q = q0) := ⟨by rw [List.length_set]; exact h.len, fun q hq' => by
  rw [set_get (by rw [h.len]; exact hq)]
  split
  · rename_i e
    exact ⟨fun _ => .inr e, fun _ => rfl⟩
  · rename_i e
    exact (h.iff q hq').trans ⟨.inl, fun h => h.elim id fun e2 => absurd e2 e⟩⟩
theorem MkB.cong {n : Nat} {M : List Bool} {P P' : Nat → Prop} (h : MkB n M P) (hp : ∀ q, q < n → (P q ↔ P' q)) : MkB n M P' := ⟨h.len, fun q hq => (h.iff q hq).trans (hp q hq)⟩
/-- A step ahead, by the first edges. -/
def AhE (g : Pl) (t : Tb) (s j : Nat) (E : List Ed) (k : Nat) (y : Nat) : Prop := ∃ i, i < k ∧ (E.getD i ed0).fr = (y : Int) ∧ ∃ q : Nat, (E.getD i ed0).to = q ∧ Bk g t s j q
theorem ahe_zero {j : Nat} {E : List Ed} {q : Nat} : False ↔ AhE g t s j E 0 q := ⟨fun h => h.elim, fun ⟨i, h, _⟩ => by omega⟩
theorem ahe_skip {j k q q0 : Nat} {E : List Ed} (ht : (E.getD k ed0).to = (q0 : Int)) (hn : ¬ Bk g t s j q0) : AhE g t s j E k q ↔ AhE g t s j E (k + 1) q :=
  ⟨fun ⟨i, h, h2⟩ => ⟨i, by omega, h2⟩, fun ⟨i, h, h2, q', h3, h4⟩ => ⟨i, Nat.lt_of_le_of_ne (by omega) (fun e => by subst e; exact hn ((by omega : q' = q0) ▸ h4)), h2, q', h3, h4⟩⟩
theorem ahe_add {j k q q0 f0 : Nat} {E : List Ed} (hf : (E.getD k ed0).fr = (f0 : Int)) (ht : (E.getD k ed0).to = (q0 : Int)) (hb : Bk g t s j q0) : (AhE g t s j E k q ∨ q = f0) ↔ AhE g t s j E (k + 1) q := by
  constructor
  · rintro (⟨i, h, h2⟩ | rfl)
    · exact ⟨i, by omega, h2⟩
    · exact ⟨k, by omega, hf, q0, ht, hb⟩
  · rintro ⟨i, h, h2, h3⟩
    rcases (by omega : i < k ∨ i = k) with e | rfl
    · exact .inl ⟨i, e, h2, h3⟩
    · exact .inr (by omega)
theorem eds_at {E : List Ed} (hE : EdsOk g t E) {i : Nat} (hi : i < E.length) : ∃ sf q : Nat, (E.getD i ed0).fr = sf ∧ (E.getD i ed0).to = q ∧ Edg g t sf (E.getD i ed0).sy q := (hE _).1 (getD_mem hi)
theorem eds_mem {E : List Ed} (hE : EdsOk g t E) {sf q : Nat} {x : Int} (h : Edg g t sf x q) : ∃ i, i < E.length ∧ E.getD i ed0 = ⟨(sf : Int), x, (q : Int)⟩ := by
  obtain ⟨i, hi, he⟩ := List.mem_iff_getElem.1 ((hE ⟨(sf : Int), x, (q : Int)⟩).2 ⟨sf, q, rfl, rfl, h⟩)
  exact ⟨i, hi, by rw [List.getD_eq_getElem?_getD, List.getElem?_eq_getElem hi]; exact he⟩
theorem ahe_all {j : Nat} {E : List Ed} (hE : EdsOk g t E) {k y : Nat} (hk : k = E.length) : AhE g t s j E k y ↔ Bk g t s (j + 1) y := by
  subst hk
  constructor
  · rintro ⟨i, hi, h1, q, h2, h3⟩
    obtain ⟨sf, q', e1, e2, e3⟩ := eds_at hE hi
    have a1 : sf = y := by omega
    have a2 : q' = q := by omega
    subst a1 a2
    exact ⟨_, q', e3, h3⟩
  · rintro ⟨x, q, h1, h2⟩
    obtain ⟨i, hi, he⟩ := eds_mem hE h1
    exact ⟨i, hi, by rw [he], q, by rw [he], h2⟩
end Go.Proofs.YtkpehkadammppaaFx

/-! Edges listed, so far: plainly. -/
namespace Go.Proofs.YtkpehkadammppaaFx
open Go Go.RowKit
variable {g : Pl} {t : Tb}
def Ek (D : Nat → Int → Nat → Prop) (E : List Ed) : Prop := ∀ e : Ed, e ∈ E ↔ ∃ s q : Nat, e.fr = s ∧ e.to = q ∧ D s e.sy q
section
variable {D D' : Nat → Int → Nat → Prop} {E : List Ed} {s q : Nat} {x : Int}
theorem Ek.cong (h : Ek D E) (hD : ∀ s x q, D s x q ↔ D' s x q) : Ek D' E := fun e => (h e).trans ⟨fun ⟨s, q, h1, h2, h3⟩ => ⟨s, q, h1, h2, (hD _ _ _).1 h3⟩, fun ⟨s, q, h1, h2, h3⟩ => ⟨s, q, h1, h2, (hD _ _ _).2 h3⟩⟩
theorem Ek.nil : Ek (fun _ _ _ => False) [] := fun e => ⟨fun h => by simp at h, fun ⟨_, _, _, _, h⟩ => h.elim⟩
theorem Ek.add (h : Ek D E) : Ek (fun s' x' q' => D s' x' q' ∨ (s' = s ∧ x' = x ∧ q' = q)) (E ++ [⟨(s : Int), x, (q : Int)⟩]) := fun e => by
  rw [List.mem_append, List.mem_singleton, h e]
  constructor
  · rintro (⟨s', q', h1, h2, h3⟩ | rfl)
    · exact ⟨s', q', h1, h2, .inl h3⟩
    · exact ⟨s, q, rfl, rfl, .inr ⟨rfl, rfl, rfl⟩⟩
  · rintro ⟨s', q', h1, h2, h3 | ⟨rfl, h4, rfl⟩⟩
    · exact .inl ⟨s', q', h1, h2, h3⟩
    · right
      cases e
      simp only at h1 h2 h4
      rw [h1, h2, h4]
end
/-- All steps of some states; of one more, some. -/
def Dp (g : Pl) (t : Tb) (P : Nat → Prop) (s k k' : Nat) (s' : Nat) (x : Int) (q : Nat) : Prop := (P s' ∧ Stp g t s' x q) ∨ (s' = s ∧ (StM g t s k x q ∨ StG g t s k' x q))
def Dq (g : Pl) (t : Tb) (P : Nat → Prop) (s' : Nat) (x : Int) (q : Nat) : Prop := P s' ∧ Stp g t s' x q
def Pn (g : Pl) (t : Tb) (i s : Nat) : Prop := s < i ∧ Rch g t s
section
variable {P : Nat → Prop} {s k k' q0 i : Nat}
theorem dq_nil : ∀ s x q, False ↔ Dq g t (Pn g t 0) s x q := fun s x q => ⟨fun h => h.elim, fun h => by have := h.1.1; omega⟩
theorem dp_first : ∀ s' x q, Dq g t P s' x q ↔ Dp g t P s 0 0 s' x q := fun s' x q =>
  ⟨.inl, fun h => h.elim id fun h => h.2.elim (fun h => absurd h (stm_zero _ _)) (fun h => absurd h (stg_zero _ _))⟩
theorem dp_last (hk : (t.mv.getD s []).length ≤ k) (hk' : (t.go.getD s []).length ≤ k') (hr : Rch g t s) : ∀ s' x q, Dp g t (Pn g t s) s k k' s' x q ↔ Dq g t (Pn g t (s + 1)) s' x q := fun s' x q => by
  unfold Dp Dq
  rw [← stp_iff hk hk']
  constructor
  · rintro (⟨⟨h1, h2⟩, h3⟩ | ⟨rfl, h2⟩)
    · exact ⟨⟨by omega, h2⟩, h3⟩
    · exact ⟨⟨by omega, hr⟩, h2⟩
  · rintro ⟨⟨h1, h2⟩, h3⟩
    rcases (by omega : s' < s ∨ s' = s) with e | rfl
    · exact .inl ⟨⟨e, h2⟩, h3⟩
    · exact .inr ⟨rfl, h3⟩
theorem dq_skip (hr : ¬ Rch g t i) : ∀ s' x q, Dq g t (Pn g t i) s' x q ↔ Dq g t (Pn g t (i + 1)) s' x q := fun s' x q =>
  ⟨fun ⟨⟨h1, h2⟩, h3⟩ => ⟨⟨by omega, h2⟩, h3⟩, fun ⟨⟨h1, h2⟩, h3⟩ => ⟨⟨Nat.lt_of_le_of_ne (by omega) (fun e => hr (e ▸ h2)), h2⟩, h3⟩⟩
theorem dp_mskip (hk : k < (t.mv.getD s []).length) (h : ((t.mv.getD s []).getD k mv0).d ≠ 1) : ∀ s' x q, Dp g t P s k k' s' x q ↔ Dp g t P s (k + 1) k' s' x q := fun s' x q => by unfold Dp; rw [stm_skip hk h]
theorem dp_madd (hk : k < (t.mv.getD s []).length) (h : ((t.mv.getD s []).getD k mv0).d = 1) (hq : ((t.mv.getD s []).getD k mv0).n = (q0 : Int)) : ∀ s' x q, (Dp g t P s k k' s' x q ∨ (s' = s ∧ x = (k : Int) ∧ q = q0)) ↔ Dp g t P s (k + 1) k' s' x q := fun s' x q => by
  unfold Dp
  rw [stm_add hk h hq]
  constructor
  · rintro ((h1 | ⟨h1, h2 | h2⟩) | ⟨h1, h2⟩)
    · exact .inl h1
    · exact .inr ⟨h1, .inl (.inl h2)⟩
    · exact .inr ⟨h1, .inr h2⟩
    · exact .inr ⟨h1, .inl (.inr h2)⟩
  · rintro (h1 | ⟨h1, (h2 | h2) | h2⟩)
    · exact .inl (.inl h1)
    · exact .inl (.inr ⟨h1, .inl h2⟩)
    · exact .inr ⟨h1, h2⟩
    · exact .inl (.inr ⟨h1, .inr h2⟩)
theorem dp_gskip (hk : k' < (t.go.getD s []).length) (h : (t.go.getD s []).getD k' 0 < 0) : ∀ s' x q, Dp g t P s k k' s' x q ↔ Dp g t P s k (k' + 1) s' x q := fun s' x q => by unfold Dp; rw [stg_skip hk h]
theorem dp_gadd (hk : k' < (t.go.getD s []).length) (hq : (t.go.getD s []).getD k' 0 = (q0 : Int)) : ∀ s' x q, (Dp g t P s k k' s' x q ∨ (s' = s ∧ x = (g.kinds.length : Int) + k' ∧ q = q0)) ↔ Dp g t P s k (k' + 1) s' x q := fun s' x q => by
  unfold Dp
  rw [stg_add hk hq]
  constructor
  · rintro ((h1 | ⟨h1, h2 | h2⟩) | ⟨h1, h2⟩)
    · exact .inl h1
    · exact .inr ⟨h1, .inl h2⟩
    · exact .inr ⟨h1, .inr (.inl h2)⟩
    · exact .inr ⟨h1, .inr (.inr h2)⟩
  · rintro (h1 | ⟨h1, h2 | h2 | h2⟩)
    · exact .inl (.inl h1)
    · exact .inl (.inr ⟨h1, .inl h2⟩)
    · exact .inl (.inr ⟨h1, .inr h2⟩)
    · exact .inr ⟨h1, h2⟩
theorem Ek.fin {E : List Ed} (h : Ek (Dq g t (Pn g t i)) E) (hf : Fit2 g t) (hi : t.mv.length ≤ i) : EdsOk g t E := fun e => (h e).trans
  ⟨fun ⟨s, q, h1, h2, h3, h4⟩ => ⟨s, q, h1, h2, h3.2, h4⟩, fun ⟨s, q, h1, h2, h3, h4⟩ => ⟨s, q, h1, h2, ⟨by have := hf.rch h3; omega, h3⟩, h4⟩⟩
end
end Go.Proofs.YtkpehkadammppaaFx

/-! Does every way to a state end with a row of symbols? (the document's) -/
namespace Go.Proofs.Ytkpehkadammppaa.REndsW
open Go Go.RowKit Go.Proofs.YtkpehkadammppaaFx 
theorem agg106 : Agg Try.prog 106 3 := agg_of Try.underlying106 (by kernel_rfl)
theorem fa103_0 : FieldAt Try.prog 103 0 0 := field_at (sz := 4) Try.underlying103 rfl (by kernel_rfl) rfl
theorem fa103_1 : FieldAt Try.prog 103 1 5 := field_at (sz := 1) Try.underlying103 rfl (by kernel_rfl) rfl
theorem fa103_2 : FieldAt Try.prog 103 2 7 := field_at (sz := 0) Try.underlying103 rfl (by kernel_rfl) rfl
theorem fa106_0 : FieldAt Try.prog 106 0 0 := field_at (sz := 0) Try.underlying106 rfl (by kernel_rfl) rfl
theorem fa106_1 : FieldAt Try.prog 106 1 1 := field_at (sz := 0) Try.underlying106 rfl (by kernel_rfl) rfl
theorem fa106_2 : FieldAt Try.prog 106 2 2 := field_at (sz := 0) Try.underlying106 rfl (by kernel_rfl) rfl
theorem fa25_0 : FieldAt Try.prog 25 0 0 := field_at (sz := 0) Try.underlying25 rfl (by kernel_rfl) rfl
theorem fa25_1 : FieldAt Try.prog 25 1 1 := field_at (sz := 0) Try.underlying25 rfl (by kernel_rfl) rfl
theorem fa53_0 : FieldAt Try.prog 53 0 0 := field_at (sz := 0) Try.underlying53 rfl (by kernel_rfl) rfl
theorem fa53_4 : FieldAt Try.prog 53 4 4 := field_at (sz := 0) Try.underlying53 rfl (by kernel_rfl) rfl
theorem info4 : (Try.prog.info? 4).map (fun i => (i.zero, i.size, i.bytes)) = some (some (.bool false), 1, 1) := by kernel_rfl
theorem mixed : Try.prog.follows .mixedOrders = true := by kernel_rfl
theorem one101 : One Try.prog 101 := one_of Try.underlying101 rfl (by kernel_rfl)
theorem one22 : One Try.prog 22 := one_of Try.underlying22 rfl (by kernel_rfl)
theorem one23 : One Try.prog 23 := one_of Try.underlying23 rfl (by kernel_rfl)
theorem one3 : One Try.prog 3 := one_of Try.underlying3 rfl (by kernel_rfl)
theorem one39 : One Try.prog 39 := one_of Try.underlying39 rfl (by kernel_rfl)
theorem one4 : One Try.prog 4 := one_of Try.underlying4 rfl (by kernel_rfl)
theorem one49 : One Try.prog 49 := one_of Try.underlying49 rfl (by kernel_rfl)
theorem sz106 : ∀ W, (sizeOf 106).run Try.prog W = .ok 3 W := size_of (by kernel_rfl)
theorem sz3 : ∀ W, (sizeOf 3).run Try.prog W = .ok 1 W := size_of (by kernel_rfl)
theorem sz39 : ∀ W, (sizeOf 39).run Try.prog W = .ok 1 W := size_of (by kernel_rfl)
theorem sz4 : ∀ W, (sizeOf 4).run Try.prog W = .ok 1 W := size_of (by kernel_rfl)
theorem zv106 : ∀ W, (zeroValue 106).run Try.prog W = .ok (.agg #[.int .i64 0, .int .i64 0, .int .i64 0]) W := zero_of (by kernel_rfl)

set_option maxHeartbeats 6400000 in
set_option maxRecDepth 100000 in
theorem rends_calls {p : Pr} {R : Option Addr} {c : Nat} {g : Pl} {a : PlA} {t : Tb} {A B Ae : Option Addr} {ca cb ce b s : Nat} {E : List Ed} {mvv : Value} {w : World} (hW : ∀ j v, ([.slice a.k g.kinds.length a.ck, .slice a.p g.precs.length a.cp, .slice a.r g.rules.length a.cr, .slice a.q g.prods.length a.cq, .int .i64 g.start, .slice A t.mv.length ca, .slice B t.go.length cb, .slice Ae E.length ce, mvv] : List Value)[j]? = some v → w.cell? ⟨b, j, none⟩ = some v) (hx : t.rd w A B) (hf : Fit2 g t) (hEd : Rd fEd.kn w Ae E) (hE : EdsOk g t E) (hl : E.length ≤ 1099511627776) (hs : s < t.mv.length) (hR : Rd (kInt .i64) w R p.right) (hP : PrOk g p) (hgl : g.rules.length ≤ 1099511627776) :
    Calls Try.prog 69 #[.pointer (some ⟨b, 0, none⟩), .int .i64 s, .slice R p.right.length c, .int .i64 p.left] w fun e w' => ∃ v, e = .returned v ∧ v = .bool (dec (EndsOk g t s p)) ∧ Holds w [] w' := by
  have hn1 := hf.1
  have hn2 := hf.2.1
  have hng := hf.2.2.1
  have hrow := hf.2.2.2
  obtain ⟨⟨hP1, hP2, hP3⟩, hP4, hP5⟩ := hP
  refine calls_of Try.func69 rfl Try.ntmps69 rfl ?_
  have H := Holds.start w
  refine wc_seq ?_
  refine wc_region ?_
  refine wl_v rfl rfl rfl (v_assign rfl) ?_
  refine wl_nil ?_
  refine wc_seq ?_
  refine wc_region ?_
  refine wl_v rfl rfl rfl (v_move rfl) ?_
  refine wl_v rfl rfl rfl (v_nil rfl) ?_
  refine wl_v rfl rfl rfl (v_fb (o2 := 5) fa103_1 rfl rfl) ?_
  refine wl_v rfl rfl rfl (v_fb (o2 := 5) fa25_0 rfl rfl) ?_
  refine wl_v rfl rfl rfl (v_load one22 rfl (H.cell (hW 5 _ rfl))) ?_
  refine wl_v rfl rfl rfl (v_len Try.underlying22 rfl) ?_
  refine wl_v rfl rfl rfl (v_assign rfl) ?_
  refine wl_nil ?_
  refine wc_seq ?_
  refine wc_region ?_
  refine wl_v rfl rfl rfl (v_move rfl) ?_
  refine wl_make (f := fBool) (z' := false) H rfl Try.underlying97 info4 rfl (by decide) rfl rfl (by omega) (by omega) (by decide) ?_
  rw [Int.toNat_natCast]
  intro Aa w1 H1 hs1
  refine wl_v rfl rfl rfl (v_assign rfl) ?_
  refine wl_nil ?_
  refine wc_seq ?_
  refine wc_region ?_
  refine wl_v rfl rfl rfl (v_move rfl) ?_
  refine wl_v rfl rfl rfl (v_move rfl) ?_
  refine wl_v rfl rfl rfl (v_idx Try.underlying97 sz4 (fun h_ => (H1.rrd (f := fBool) (e := 4) (A := Aa) (xs := List.replicate t.mv.length false) (by repeat constructor)).ad (by rw [List.length_replicate]; exact h_)) rfl rfl (by omega) (by omega)) ?_
  refine wl_storeR (f := fBool) (xs := List.replicate t.mv.length false) (i := (s : Int)) (x' := true) H1 (by repeat constructor) sz4 rfl rfl rfl (by omega) (by rw [List.length_replicate]; omega) ?_
  intro w2 H2
  rw [Int.toNat_natCast] at H2
  refine wl_nil ?_
  refine wc_seq ?_
  refine wc_seq ?_
  refine wc_region ?_
  refine wl_v rfl rfl rfl (v_move rfl) ?_
  refine wl_v rfl rfl rfl (v_len Try.underlying39 rfl) ?_
  refine wl_v rfl rfl rfl (v_subi rfl rfl (by omega)) ?_
  refine wl_v rfl rfl rfl (v_assign rfl) ?_
  refine wl_nil ?_
  refine wc_block ?_
  refine wc_loop (σ := Nat × Option Addr × List Bool) (fun s' => [(0, .pointer (some ⟨b, 0, none⟩)), (1, .int .i64 s), (2, .slice R p.right.length c), (3, .int .i64 p.left), (9, .int .i64 t.mv.length), (10, .slice s'.2.1 t.mv.length t.mv.length), (11, .int .i64 ((p.right.length : Int) - 1 - s'.1))]) (fun s' W => ((s'.1 ≤ p.right.length ∧ ∀ j, j < s'.1 → BkOk g t s p.right j) ∧ MkB t.mv.length s'.2.2 (Bk g t s s'.1)) ∧ Holds w [Row fBool 4 (.slice s'.2.1 t.mv.length t.mv.length) s'.2.2] W) (fun s' => p.right.length - s'.1) (0, Aa, (List.replicate t.mv.length false).set s true) (by rw [show ((0 : Nat) : Int) = 0 from rfl, Int.sub_zero]; exact (sc rfl (sc rfl (sc rfl (sc rfl (sc rfl (sc rfl (sc rfl (sn _))))))))) ⟨⟨⟨Nat.zero_le _, upto_zero⟩, ((MkB.make t.mv.length).set hs).cong fun q hq => ⟨fun h => h.elim (fun h => h.elim) id, .inr⟩⟩, H2.pm (by repeat constructor)⟩ ?_
  rintro ⟨j, Aa, M⟩ W0 ⟨⟨⟨hj, hok⟩, hM⟩, H⟩
  dsimp only at hj hok hM H ⊢
  have hMl := hM.len
  refine wc_seq ?_
  refine wc_seq ?_
  refine wc_region ?_
  refine wl_v rfl rfl rfl (v_move rfl) ?_
  refine wl_v rfl rfl rfl (v_geq rfl rfl) ?_
  refine wl_nil ?_
  refine wc_cond rfl (fun c0 => ?_) (fun c0 => ?_)
  ·have c0p := of_decide_eq_true c0
   have hix : ((p.right.length : Int) - 1 - (j : Int)).toNat = p.right.length - 1 - j := by omega
   refine wc_skip ?_
   refine wc_seq ?_
   refine wc_block ?_
   refine wc_seq ?_
   refine wc_seq ?_
   refine wc_region ?_
   refine wl_v rfl rfl rfl (v_move rfl) ?_
   refine wl_v rfl rfl rfl (v_idx Try.underlying97 sz4 (fun h_ => (H.rrd (f := fBool) (e := 4) (A := Aa) (xs := M) (by repeat constructor)).ad (by have h2_ := hM.len; omega)) rfl rfl (by omega) (by omega)) ?_
   refine wl_v rfl rfl rfl (v_load one4 rfl ((H.rrd (f := fBool) (e := 4) (A := Aa) (xs := M) (by repeat constructor)).at1b (by omega) (by omega))) ?_
   refine wl_nil ?_
   refine wc_cond rfl (fun c1 => ?_) (fun c1 => ?_)
   ·refine wc_seq ?_
    refine wc_region ?_
    refine wl_v rfl rfl rfl (v_assign rfl) ?_
    refine wl_nil ?_
    refine wc_ret ?_
    first
      | (have q_ := g60
         exact ⟨_, res1 rfl rfl, congrArg Value.bool (dec_f fun hh => by (have h_ := g60; rw [htt] at h_; have h2_ := c3p; rw [hix] at h2_; exact h2_ ((hh.1 j (by omega)).2 _ _ _ he1 ((hM.iff q (by omega)).1 h_)))).symm, H.pm (Pm.nil _)⟩)
      | (have q_ := g88
         exact ⟨_, res1 rfl rfl, congrArg Value.bool (dec_f fun hh => by (have h_ := g88; rw [Int.toNat_natCast] at h_; have h2_ := hh.2 q (by omega) ((hM.iff q (by omega)).1 h_); omega)).symm, H.pm (Pm.nil _)⟩)
      | (have q_ := hgo
         exact ⟨_, res1 rfl rfl, congrArg Value.bool (dec_t ⟨hok, fun q hq hb => hgo q (by omega) hb⟩).symm, H.pm (Pm.nil _)⟩)
      | exact ⟨_, res1 rfl rfl, congrArg Value.bool (dec_f fun hh => (hh.1 j (by omega)).1 ((hM.iff 0 (by omega)).1 c1)).symm, H.pm (Pm.nil _)⟩
   ·refine wc_skip ?_
    refine wc_seq ?_
    refine wc_region ?_
    refine wl_v rfl rfl rfl (v_move rfl) ?_
    refine wl_make (f := fBool) (z' := false) H rfl Try.underlying97 info4 rfl (by decide) rfl rfl (by omega) (by omega) (by decide) ?_
    rw [Int.toNat_natCast]
    intro An w3 H3 hs3
    refine wl_v rfl rfl rfl (v_assign rfl) ?_
    refine wl_nil ?_
    refine wc_seq ?_
    refine wc_seq ?_
    refine wc_region ?_
    refine wl_v rfl rfl rfl (v_assign rfl) ?_
    refine wl_nil ?_
    refine wc_block ?_
    refine wc_loop (σ := Nat × List Bool) (fun s' => [(0, .pointer (some ⟨b, 0, none⟩)), (1, .int .i64 s), (2, .slice R p.right.length c), (3, .int .i64 p.left), (9, .int .i64 t.mv.length), (10, .slice Aa t.mv.length t.mv.length), (11, .int .i64 ((p.right.length : Int) - 1 - j)), (12, .slice An t.mv.length t.mv.length), (13, .int .i64 s'.1)]) (fun s' W => ((s'.1 ≤ E.length ∧ ∀ i, i < s'.1 → ∀ q : Nat, (E.getD i ed0).to = q → Bk g t s j q → (E.getD i ed0).sy = p.right.getD (p.right.length - 1 - j) 0) ∧ MkB t.mv.length s'.2 (AhE g t s j E s'.1)) ∧ Holds w [Row fBool 4 (.slice An t.mv.length t.mv.length) s'.2, Row fBool 4 (.slice Aa t.mv.length t.mv.length) M] W) (fun s' => E.length - s'.1) (0, List.replicate t.mv.length false) (sc rfl (sc rfl (sc rfl (sc rfl (sc rfl (sc rfl (sc rfl (sc rfl (sc rfl (sn _)))))))))) ⟨⟨⟨Nat.zero_le _, upto_zero⟩, (MkB.make t.mv.length).cong fun q hq => ahe_zero⟩, H3.pm (by repeat constructor)⟩ ?_
    rintro ⟨ke, Mn⟩ W1 ⟨⟨⟨hke, hsy⟩, hN⟩, H⟩
    dsimp only at hke hsy hN H ⊢
    have hNl := hN.len
    refine wc_seq ?_
    refine wc_seq ?_
    refine wc_region ?_
    refine wl_v rfl rfl rfl (v_move rfl) ?_
    refine wl_v rfl rfl rfl (v_move rfl) ?_
    refine wl_v rfl rfl rfl (v_nil rfl) ?_
    refine wl_v rfl rfl rfl (v_fb (o2 := 7) fa103_2 rfl rfl) ?_
    refine wl_v rfl rfl rfl (v_load one101 rfl (H.cell (hW 7 _ rfl))) ?_
    refine wl_v rfl rfl rfl (v_len Try.underlying101 rfl) ?_
    refine wl_v rfl rfl rfl (v_lss rfl rfl) ?_
    refine wl_nil ?_
    refine wc_cond rfl (fun c2 => ?_) (fun c2 => ?_)
    ·have c2p := of_decide_eq_true c2
     obtain ⟨sf, q, hf1, ht1, he1⟩ := eds_at hE (i := ke) (by omega)
     have hfn := hf.rch he1.1
     have htn := hf.stp hfn he1.2
     have hft : (E.getD ke ed0).fr.toNat = sf := by omega
     have htt : (E.getD ke ed0).to.toNat = q := by omega
     refine wc_skip ?_
     refine wc_seq ?_
     refine wc_block ?_
     refine wc_seq ?_
     refine wc_region ?_
     refine wl_v rfl rfl rfl (v_move rfl) ?_
     refine wl_v rfl rfl rfl (v_nil rfl) ?_
     refine wl_v rfl rfl rfl (v_fb (o2 := 7) fa103_2 rfl rfl) ?_
     refine wl_v rfl rfl rfl (v_load one101 rfl (H.cell (hW 7 _ rfl))) ?_
     refine wl_v rfl rfl rfl (v_move rfl) ?_
     refine wl_v rfl rfl rfl (v_idx Try.underlying101 sz106 hEd.ad rfl rfl (by omega) (by omega)) ?_
     refine wl_v rfl rfl rfl (v_loadN (cs := fEd.enc _) agg106 rfl rfl (fun k u hu => H.cell (hEd.atN (i := ke) (k := k) ed0 (by omega) hu))) ?_
     refine wl_alloc (cs := [.int .i64 0, .int .i64 0, .int .i64 0]) H rfl zv106 rfl ?_
     intro b14 w4 hb14 H5
     refine wl_store (vs := [_, _, _]) H5 (by repeat constructor) sz106 rfl rfl rfl rfl rfl (by (repeat constructor)) ?_
     intro w6 H7 hw6
     refine wl_nil ?_
     refine wc_seq ?_
     refine wc_seq ?_
     refine wc_still mixed (by kernel_rfl) ?_
     have Hd := H7.drew
     refine ws_v rfl rfl rfl (v_move rfl) ?_
     refine ws_v rfl rfl rfl (v_fb (o2 := 2) fa106_2 rfl rfl) ?_
     refine ws_v rfl rfl rfl (v_load one3 rfl (Hd.at (by repeat constructor) rfl)) ?_
     refine ws_v rfl rfl rfl (v_idx Try.underlying97 sz4 (fun h_ => (Hd.rrd (f := fBool) (e := 4) (A := Aa) (xs := M) (by repeat constructor)).ad (by have h2_ := hM.len; omega)) rfl rfl (by omega) (by omega)) ?_
     refine ws_v rfl rfl rfl (v_load one4 rfl ((Hd.rrd (f := fBool) (e := 4) (A := Aa) (xs := M) (by repeat constructor)).at1b (by omega) (by omega))) ?_
     refine ws_v rfl rfl rfl (v_move rfl) ?_
     refine ws_guard rfl rfl rfl (fun g60 => ?_) (fun g60 => ?_)
     ·refine ws_v rfl rfl rfl (v_fb (o2 := 1) fa106_1 rfl rfl) ?_
      refine ws_on' rfl rfl g60 ?_
      refine ws_v rfl rfl rfl (v_load one3 rfl (Hd.at (by repeat constructor) rfl)) ?_
      refine ws_on' rfl rfl g60 ?_
      refine ws_v rfl rfl rfl (v_move rfl) ?_
      refine ws_on' rfl rfl g60 ?_
      refine ws_v rfl rfl rfl (v_move rfl) ?_
      refine ws_on' rfl rfl g60 ?_
      refine ws_v rfl rfl rfl (v_idx Try.underlying39 sz3 hR.ad rfl rfl (by omega) (by omega)) ?_
      refine ws_on' rfl rfl g60 ?_
      refine ws_v rfl rfl rfl (v_load one3 rfl (Hd.cell (hR.at1 (by omega) (by omega)))) ?_
      refine ws_on' rfl rfl g60 ?_
      refine ws_v rfl rfl rfl (v_neq rfl rfl) ?_
      refine ws_v rfl rfl rfl (v_pick_t rfl g60 rfl) ?_
      refine ws_nil ?_
      refine wc_cond rfl (fun c3 => ?_) (fun c3 => ?_)
      ·have c3p := of_nd_t c3
       refine wc_seq ?_
       refine wc_region ?_
       refine wl_v rfl rfl rfl (v_assign rfl) ?_
       refine wl_nil ?_
       refine wc_ret ?_
       first
         | (have q_ := g60
            exact ⟨_, res1 rfl rfl, congrArg Value.bool (dec_f fun hh => by (have h_ := g60; rw [htt] at h_; have h2_ := c3p; rw [hix] at h2_; exact h2_ ((hh.1 j (by omega)).2 _ _ _ he1 ((hM.iff q (by omega)).1 h_)))).symm, Hd.pm (Pm.nil _)⟩)
         | (have q_ := g88
            exact ⟨_, res1 rfl rfl, congrArg Value.bool (dec_f fun hh => by (have h_ := g88; rw [Int.toNat_natCast] at h_; have h2_ := hh.2 q (by omega) ((hM.iff q (by omega)).1 h_); omega)).symm, Hd.pm (Pm.nil _)⟩)
         | (have q_ := hgo
            exact ⟨_, res1 rfl rfl, congrArg Value.bool (dec_t ⟨hok, fun q hq hb => hgo q (by omega) hb⟩).symm, Hd.pm (Pm.nil _)⟩)
         | exact ⟨_, res1 rfl rfl, congrArg Value.bool (dec_f fun hh => (hh.1 j (by omega)).1 ((hM.iff 0 (by omega)).1 c1)).symm, Hd.pm (Pm.nil _)⟩
      ·have c3p := of_nd_f c3
       have hsk : ∀ q' : Nat, (E.getD ke ed0).to = q' → Bk g t s j q' → (E.getD ke ed0).sy = p.right.getD (p.right.length - 1 - j) 0 := fun q' e1_ hb => by
         have e2_ : q' = q := by omega
         subst e2_
         first
           | (have h_ := c3p; rw [hix] at h_; omega)
           | (have h_ := g60; rw [htt, (hM.iff q' (by omega)).2 hb] at h_; cases h_)
       refine wc_skip ?_
       refine wc_seq ?_
       refine wc_region ?_
       refine wl_v rfl rfl rfl (v_move rfl) ?_
       refine wl_v rfl rfl rfl (v_fb (o2 := 2) fa106_2 rfl rfl) ?_
       refine wl_v rfl rfl rfl (v_load one3 rfl (Hd.at (by repeat constructor) rfl)) ?_
       refine wl_v rfl rfl rfl (v_idx Try.underlying97 sz4 (fun h_ => (Hd.rrd (f := fBool) (e := 4) (A := Aa) (xs := M) (by repeat constructor)).ad (by have h2_ := hM.len; omega)) rfl rfl (by omega) (by omega)) ?_
       refine wl_v rfl rfl rfl (v_load one4 rfl ((Hd.rrd (f := fBool) (e := 4) (A := Aa) (xs := M) (by repeat constructor)).at1b (by omega) (by omega))) ?_
       refine wl_nil ?_
       refine wc_cond rfl (fun c4 => ?_) (fun c4 => ?_)
       ·refine wc_region ?_
        refine wl_v rfl rfl rfl (v_move rfl) ?_
        refine wl_v rfl rfl rfl (v_fb (o2 := 0) fa106_0 rfl rfl) ?_
        refine wl_v rfl rfl rfl (v_load one3 rfl (Hd.at (by repeat constructor) rfl)) ?_
        refine wl_v rfl rfl rfl (v_idx Try.underlying97 sz4 (fun h_ => (Hd.rrd (f := fBool) (e := 4) (A := An) (xs := Mn) (by repeat constructor)).ad (by have h2_ := hN.len; omega)) rfl rfl (by omega) (by omega)) ?_
        refine wl_storeR (f := fBool) (xs := Mn) (i := (E.getD ke ed0).fr) (x' := true) Hd (by repeat constructor) sz4 rfl rfl rfl (by omega) (by have h2_ := hN.len; omega) ?_
        intro w8 H8
        rw [hft] at H8
        refine wl_nil ?_
        refine wc_region ?_
        refine wl_v rfl rfl rfl (v_move rfl) ?_
        refine wl_v rfl rfl rfl (v_addi rfl rfl (by omega)) ?_
        refine wl_v rfl rfl rfl (v_assign rfl) ?_
        refine wl_nil ?_
        first
          | exact ⟨(ke + 1, Mn.set sf true), (sc rfl (sc rfl (sc rfl (sc rfl (sc rfl (sc rfl (sc rfl (sc rfl (sc rfl (sn _)))))))))), ⟨⟨⟨by dsimp only; omega, upto_succ hsy hsk⟩, (hN.set (by omega)).cong fun y _ => ahe_add hf1 ht1 ((hM.iff q (by omega)).1 (by have h_ := c4; rw [htt] at h_; exact h_))⟩, H8.pm (by repeat constructor)⟩, by dsimp only; omega⟩
          | exact ⟨(ke + 1, Mn), (sc rfl (sc rfl (sc rfl (sc rfl (sc rfl (sc rfl (sc rfl (sc rfl (sc rfl (sn _)))))))))), ⟨⟨⟨by dsimp only; omega, upto_succ hsy hsk⟩, hN.cong fun y _ => ahe_skip ht1 (fun hb => by (have h_ := c4; rw [htt, (hM.iff q (by omega)).2 hb] at h_; cases h_))⟩, H8.pm (by repeat constructor)⟩, by dsimp only; omega⟩
       ·refine wc_skip ?_
        refine wc_region ?_
        refine wl_v rfl rfl rfl (v_move rfl) ?_
        refine wl_v rfl rfl rfl (v_addi rfl rfl (by omega)) ?_
        refine wl_v rfl rfl rfl (v_assign rfl) ?_
        refine wl_nil ?_
        first
          | exact ⟨(ke + 1, Mn.set sf true), (sc rfl (sc rfl (sc rfl (sc rfl (sc rfl (sc rfl (sc rfl (sc rfl (sc rfl (sn _)))))))))), ⟨⟨⟨by dsimp only; omega, upto_succ hsy hsk⟩, (hN.set (by omega)).cong fun y _ => ahe_add hf1 ht1 ((hM.iff q (by omega)).1 (by have h_ := c4; rw [htt] at h_; exact h_))⟩, Hd.pm (by repeat constructor)⟩, by dsimp only; omega⟩
          | exact ⟨(ke + 1, Mn), (sc rfl (sc rfl (sc rfl (sc rfl (sc rfl (sc rfl (sc rfl (sc rfl (sc rfl (sn _)))))))))), ⟨⟨⟨by dsimp only; omega, upto_succ hsy hsk⟩, hN.cong fun y _ => ahe_skip ht1 (fun hb => by (have h_ := c4; rw [htt, (hM.iff q (by omega)).2 hb] at h_; cases h_))⟩, Hd.pm (by repeat constructor)⟩, by dsimp only; omega⟩
     ·have hsk : ∀ q' : Nat, (E.getD ke ed0).to = q' → Bk g t s j q' → (E.getD ke ed0).sy = p.right.getD (p.right.length - 1 - j) 0 := fun q' e1_ hb => by
        have e2_ : q' = q := by omega
        subst e2_
        have h_ := g60
        rw [htt, (hM.iff q' (by omega)).2 hb] at h_
        cases h_
      refine ws_off rfl rfl g60 rfl ?_
      refine ws_off rfl rfl g60 rfl ?_
      refine ws_off rfl rfl g60 rfl ?_
      refine ws_off rfl rfl g60 rfl ?_
      refine ws_off rfl rfl g60 rfl ?_
      refine ws_off rfl rfl g60 rfl ?_
      refine ws_v rfl rfl rfl (v_pick_f rfl g60 rfl) ?_
      refine ws_nil ?_
      refine wc_cond_f rfl ?_
      refine wc_skip ?_
      refine wc_seq ?_
      refine wc_region ?_
      refine wl_v rfl rfl rfl (v_move rfl) ?_
      refine wl_v rfl rfl rfl (v_fb (o2 := 2) fa106_2 rfl rfl) ?_
      refine wl_v rfl rfl rfl (v_load one3 rfl (Hd.at (by repeat constructor) rfl)) ?_
      refine wl_v rfl rfl rfl (v_idx Try.underlying97 sz4 (fun h_ => (Hd.rrd (f := fBool) (e := 4) (A := Aa) (xs := M) (by repeat constructor)).ad (by have h2_ := hM.len; omega)) rfl rfl (by omega) (by omega)) ?_
      refine wl_v rfl rfl rfl (v_load one4 rfl ((Hd.rrd (f := fBool) (e := 4) (A := Aa) (xs := M) (by repeat constructor)).at1b (by omega) (by omega))) ?_
      refine wl_nil ?_
      refine wc_cond rfl (fun c4 => ?_) (fun c4 => ?_)
      ·refine wc_region ?_
       refine wl_v rfl rfl rfl (v_move rfl) ?_
       refine wl_v rfl rfl rfl (v_fb (o2 := 0) fa106_0 rfl rfl) ?_
       refine wl_v rfl rfl rfl (v_load one3 rfl (Hd.at (by repeat constructor) rfl)) ?_
       refine wl_v rfl rfl rfl (v_idx Try.underlying97 sz4 (fun h_ => (Hd.rrd (f := fBool) (e := 4) (A := An) (xs := Mn) (by repeat constructor)).ad (by have h2_ := hN.len; omega)) rfl rfl (by omega) (by omega)) ?_
       refine wl_storeR (f := fBool) (xs := Mn) (i := (E.getD ke ed0).fr) (x' := true) Hd (by repeat constructor) sz4 rfl rfl rfl (by omega) (by have h2_ := hN.len; omega) ?_
       intro w9 H9
       rw [hft] at H9
       refine wl_nil ?_
       refine wc_region ?_
       refine wl_v rfl rfl rfl (v_move rfl) ?_
       refine wl_v rfl rfl rfl (v_addi rfl rfl (by omega)) ?_
       refine wl_v rfl rfl rfl (v_assign rfl) ?_
       refine wl_nil ?_
       first
         | exact ⟨(ke + 1, Mn.set sf true), (sc rfl (sc rfl (sc rfl (sc rfl (sc rfl (sc rfl (sc rfl (sc rfl (sc rfl (sn _)))))))))), ⟨⟨⟨by dsimp only; omega, upto_succ hsy hsk⟩, (hN.set (by omega)).cong fun y _ => ahe_add hf1 ht1 ((hM.iff q (by omega)).1 (by have h_ := c4; rw [htt] at h_; exact h_))⟩, H9.pm (by repeat constructor)⟩, by dsimp only; omega⟩
         | exact ⟨(ke + 1, Mn), (sc rfl (sc rfl (sc rfl (sc rfl (sc rfl (sc rfl (sc rfl (sc rfl (sc rfl (sn _)))))))))), ⟨⟨⟨by dsimp only; omega, upto_succ hsy hsk⟩, hN.cong fun y _ => ahe_skip ht1 (fun hb => by (have h_ := c4; rw [htt, (hM.iff q (by omega)).2 hb] at h_; cases h_))⟩, H9.pm (by repeat constructor)⟩, by dsimp only; omega⟩
      ·refine wc_skip ?_
       refine wc_region ?_
       refine wl_v rfl rfl rfl (v_move rfl) ?_
       refine wl_v rfl rfl rfl (v_addi rfl rfl (by omega)) ?_
       refine wl_v rfl rfl rfl (v_assign rfl) ?_
       refine wl_nil ?_
       first
         | exact ⟨(ke + 1, Mn.set sf true), (sc rfl (sc rfl (sc rfl (sc rfl (sc rfl (sc rfl (sc rfl (sc rfl (sc rfl (sn _)))))))))), ⟨⟨⟨by dsimp only; omega, upto_succ hsy hsk⟩, (hN.set (by omega)).cong fun y _ => ahe_add hf1 ht1 ((hM.iff q (by omega)).1 (by have h_ := c4; rw [htt] at h_; exact h_))⟩, Hd.pm (by repeat constructor)⟩, by dsimp only; omega⟩
         | exact ⟨(ke + 1, Mn), (sc rfl (sc rfl (sc rfl (sc rfl (sc rfl (sc rfl (sc rfl (sc rfl (sc rfl (sn _)))))))))), ⟨⟨⟨by dsimp only; omega, upto_succ hsy hsk⟩, hN.cong fun y _ => ahe_skip ht1 (fun hb => by (have h_ := c4; rw [htt, (hM.iff q (by omega)).2 hb] at h_; cases h_))⟩, Hd.pm (by repeat constructor)⟩, by dsimp only; omega⟩
    ·have c2p := of_decide_eq_false c2
     refine wc_exit ?_
     refine wc_region ?_
     refine wl_v rfl rfl rfl (v_move rfl) ?_
     refine wl_v rfl rfl rfl (v_assign rfl) ?_
     refine wl_nil ?_
     refine wc_region ?_
     refine wl_v rfl rfl rfl (v_move rfl) ?_
     refine wl_v rfl rfl rfl (v_subi rfl rfl (by omega)) ?_
     refine wl_v rfl rfl rfl (v_assign rfl) ?_
     refine wl_nil ?_
     exact ⟨(j + 1, An, Mn), by rw [show ((p.right.length : Int) - 1 - ((j + 1 : Nat) : Int)) = (p.right.length : Int) - 1 - j - 1 by omega]; exact (sc rfl (sc rfl (sc rfl (sc rfl (sc rfl (sc rfl (sc rfl (sn _)))))))), ⟨⟨⟨by dsimp only; omega, upto_succ hok ⟨fun h_ => by (have h2_ := (hM.iff 0 (by omega)).2 h_; have h3_ := c1; rw [show (0 : Int).toNat = 0 from rfl, h2_] at h3_; cases h3_), fun q x q' he hb => by (obtain ⟨i, hi, e1⟩ := eds_mem hE he; have h2_ := hsy i (by omega) q' (by rw [e1]) hb; rw [e1] at h2_; exact h2_)⟩⟩, hN.cong fun y _ => ahe_all hE (by omega)⟩, H.pm (by repeat constructor)⟩, by dsimp only; omega⟩
  ·have c0p := of_decide_eq_false c0
   have hjl : j = p.right.length := by omega
   subst hjl
   refine wc_exit ?_
   refine wc_seq ?_
   refine wc_seq ?_
   refine wc_region ?_
   refine wl_v rfl rfl rfl (v_assign rfl) ?_
   refine wl_nil ?_
   refine wc_block ?_
   refine wc_loop (σ := Nat) (fun s' => [(0, .pointer (some ⟨b, 0, none⟩)), (1, .int .i64 s), (2, .slice R p.right.length c), (3, .int .i64 p.left), (9, .int .i64 t.mv.length), (10, .slice Aa t.mv.length t.mv.length), (15, .int .i64 s')]) (fun s' W => (s' ≤ t.mv.length ∧ ∀ q, q < s' → Bk g t s p.right.length q → 0 ≤ (t.go.getD q []).getD p.left.toNat 0) ∧ Holds w [Row fBool 4 (.slice Aa t.mv.length t.mv.length) M] W) (fun s' => t.mv.length - s') 0 (sc rfl (sc rfl (sc rfl (sc rfl (sc rfl (sc rfl (sc rfl (sn _)))))))) ⟨⟨Nat.zero_le _, upto_zero⟩, H.pm (by repeat constructor)⟩ ?_
   rintro q W2 ⟨⟨hq, hgo⟩, H⟩
   refine wc_seq ?_
   refine wc_seq ?_
   refine wc_region ?_
   refine wl_v rfl rfl rfl (v_move rfl) ?_
   refine wl_v rfl rfl rfl (v_move rfl) ?_
   refine wl_v rfl rfl rfl (v_lss rfl rfl) ?_
   refine wl_nil ?_
   refine wc_cond rfl (fun c5 => ?_) (fun c5 => ?_)
   ·have c5p := of_decide_eq_true c5
    obtain ⟨hrw1, hrw2, _, _⟩ := hrow q (by omega)
    refine wc_skip ?_
    refine wc_seq ?_
    refine wc_block ?_
    refine wc_seq ?_
    refine wc_region ?_
    refine wl_v rfl rfl rfl (v_move rfl) ?_
    refine wl_v rfl rfl rfl (v_move rfl) ?_
    refine wl_v rfl rfl rfl (v_idx Try.underlying97 sz4 (fun h_ => (H.rrd (f := fBool) (e := 4) (A := Aa) (xs := M) (by repeat constructor)).ad (by have h2_ := hM.len; omega)) rfl rfl (by omega) (by omega)) ?_
    refine wl_v rfl rfl rfl (v_load one4 rfl ((H.rrd (f := fBool) (e := 4) (A := Aa) (xs := M) (by repeat constructor)).at1b (by omega) (by omega))) ?_
    refine wl_v rfl rfl rfl (v_move rfl) ?_
    refine wl_guard rfl rfl rfl (fun g88 => ?_) (fun g88 => ?_)
    ·refine wl_v rfl rfl rfl (v_move rfl) ?_
     refine wl_on' rfl rfl g88 ?_
     refine wl_v rfl rfl rfl (v_nil rfl) ?_
     refine wl_on' rfl rfl g88 ?_
     refine wl_v rfl rfl rfl (v_fb (o2 := 5) fa103_1 rfl rfl) ?_
     refine wl_on' rfl rfl g88 ?_
     refine wl_v rfl rfl rfl (v_fb (o2 := 6) fa25_1 rfl rfl) ?_
     refine wl_on' rfl rfl g88 ?_
     refine wl_v rfl rfl rfl (v_load one23 rfl (H.cell (hW 6 _ rfl))) ?_
     refine wl_on' rfl rfl g88 ?_
     refine wl_v rfl rfl rfl (v_move rfl) ?_
     refine wl_on' rfl rfl g88 ?_
     refine wl_v rfl rfl rfl (v_idx Try.underlying23 sz39 hx.g.ad rfl rfl (by omega) (by omega)) ?_
     refine wl_on' rfl rfl g88 ?_
     obtain ⟨B96, cp96, hc96, hl96, hr96⟩ := hx.g.atSlN (i := q) (by omega)
     refine wl_v rfl rfl rfl (v_load one39 rfl (H.cell (hc96))) ?_
     refine wl_on' rfl rfl g88 ?_
     refine wl_v rfl rfl rfl (v_move rfl) ?_
     refine wl_on' rfl rfl g88 ?_
     refine wl_v rfl rfl rfl (v_idx Try.underlying39 sz3 hr96.ad rfl rfl (by omega) (by omega)) ?_
     refine wl_on' rfl rfl g88 ?_
     refine wl_v rfl rfl rfl (v_load one3 rfl (H.cell (hr96.at1 (by omega) (by omega)))) ?_
     refine wl_on' rfl rfl g88 ?_
     refine wl_v rfl rfl rfl (v_lss rfl rfl) ?_
     refine wl_v rfl rfl rfl (v_pick_t rfl g88 rfl) ?_
     refine wl_nil ?_
     refine wc_cond rfl (fun c6 => ?_) (fun c6 => ?_)
     ·have c6p := of_decide_eq_true c6
      refine wc_seq ?_
      refine wc_region ?_
      refine wl_v rfl rfl rfl (v_assign rfl) ?_
      refine wl_nil ?_
      refine wc_ret ?_
      first
        | (have q_ := g60
           exact ⟨_, res1 rfl rfl, congrArg Value.bool (dec_f fun hh => by (have h_ := g60; rw [htt] at h_; have h2_ := c3p; rw [hix] at h2_; exact h2_ ((hh.1 j (by omega)).2 _ _ _ he1 ((hM.iff q (by omega)).1 h_)))).symm, H.pm (Pm.nil _)⟩)
        | (have q_ := g88
           exact ⟨_, res1 rfl rfl, congrArg Value.bool (dec_f fun hh => by (have h_ := g88; rw [Int.toNat_natCast] at h_; have h2_ := hh.2 q (by omega) ((hM.iff q (by omega)).1 h_); omega)).symm, H.pm (Pm.nil _)⟩)
        | (have q_ := hgo
           exact ⟨_, res1 rfl rfl, congrArg Value.bool (dec_t ⟨hok, fun q hq hb => hgo q (by omega) hb⟩).symm, H.pm (Pm.nil _)⟩)
        | exact ⟨_, res1 rfl rfl, congrArg Value.bool (dec_f fun hh => (hh.1 j (by omega)).1 ((hM.iff 0 (by omega)).1 c1)).symm, H.pm (Pm.nil _)⟩
     ·have c6p := of_decide_eq_false c6
      refine wc_skip ?_
      refine wc_region ?_
      refine wl_v rfl rfl rfl (v_move rfl) ?_
      refine wl_v rfl rfl rfl (v_addi rfl rfl (by omega)) ?_
      refine wl_v rfl rfl rfl (v_assign rfl) ?_
      refine wl_nil ?_
      exact ⟨q + 1, (sc rfl (sc rfl (sc rfl (sc rfl (sc rfl (sc rfl (sc rfl (sn _)))))))), ⟨⟨by omega, upto_succ hgo fun hb => by (first | omega | (have h_ := g88; rw [Int.toNat_natCast, (hM.iff q (by omega)).2 hb] at h_; cases h_))⟩, H.pm (by repeat constructor)⟩, by omega⟩
    ·refine wl_off rfl rfl g88 rfl ?_
     refine wl_off rfl rfl g88 rfl ?_
     refine wl_off rfl rfl g88 rfl ?_
     refine wl_off rfl rfl g88 rfl ?_
     refine wl_off rfl rfl g88 rfl ?_
     refine wl_off rfl rfl g88 rfl ?_
     refine wl_off rfl rfl g88 rfl ?_
     refine wl_off rfl rfl g88 rfl ?_
     refine wl_off rfl rfl g88 rfl ?_
     refine wl_off rfl rfl g88 rfl ?_
     refine wl_off rfl rfl g88 rfl ?_
     refine wl_v rfl rfl rfl (v_pick_f rfl g88 rfl) ?_
     refine wl_nil ?_
     refine wc_cond_f rfl ?_
     refine wc_skip ?_
     refine wc_region ?_
     refine wl_v rfl rfl rfl (v_move rfl) ?_
     refine wl_v rfl rfl rfl (v_addi rfl rfl (by omega)) ?_
     refine wl_v rfl rfl rfl (v_assign rfl) ?_
     refine wl_nil ?_
     exact ⟨q + 1, (sc rfl (sc rfl (sc rfl (sc rfl (sc rfl (sc rfl (sc rfl (sn _)))))))), ⟨⟨by omega, upto_succ hgo fun hb => by (first | omega | (have h_ := g88; rw [Int.toNat_natCast, (hM.iff q (by omega)).2 hb] at h_; cases h_))⟩, H.pm (by repeat constructor)⟩, by omega⟩
   ·have c5p := of_decide_eq_false c5
    refine wc_exit ?_
    refine wc_seq ?_
    refine wc_region ?_
    refine wl_v rfl rfl rfl (v_assign rfl) ?_
    refine wl_nil ?_
    refine wc_ret ?_
    first
      | (have q_ := g60
         exact ⟨_, res1 rfl rfl, congrArg Value.bool (dec_f fun hh => by (have h_ := g60; rw [htt] at h_; have h2_ := c3p; rw [hix] at h2_; exact h2_ ((hh.1 j (by omega)).2 _ _ _ he1 ((hM.iff q (by omega)).1 h_)))).symm, H.pm (Pm.nil _)⟩)
      | (have q_ := g88
         exact ⟨_, res1 rfl rfl, congrArg Value.bool (dec_f fun hh => by (have h_ := g88; rw [Int.toNat_natCast] at h_; have h2_ := hh.2 q (by omega) ((hM.iff q (by omega)).1 h_); omega)).symm, H.pm (Pm.nil _)⟩)
      | (have q_ := hgo
         exact ⟨_, res1 rfl rfl, congrArg Value.bool (dec_t ⟨hok, fun q hq hb => hgo q (by omega) hb⟩).symm, H.pm (Pm.nil _)⟩)
      | exact ⟨_, res1 rfl rfl, congrArg Value.bool (dec_f fun hh => (hh.1 j (by omega)).1 ((hM.iff 0 (by omega)).1 c1)).symm, H.pm (Pm.nil _)⟩

set_option maxHeartbeats 3200000 in
set_option maxRecDepth 100000 in
theorem raccepts_calls {g : Pl} {a : PlA} {t : Tb} {A B Ae : Option Addr} {ca cb ce b s : Nat} {E : List Ed} {mvv : Value} {w : World} (hW : ∀ j v, ([.slice a.k g.kinds.length a.ck, .slice a.p g.precs.length a.cp, .slice a.r g.rules.length a.cr, .slice a.q g.prods.length a.cq, .int .i64 g.start, .slice A t.mv.length ca, .slice B t.go.length cb, .slice Ae E.length ce, mvv] : List Value)[j]? = some v → w.cell? ⟨b, j, none⟩ = some v) (hx : t.rd w A B) (hf : Fit2 g t) (hEd : Rd fEd.kn w Ae E) (hE : EdsOk g t E) (hl : E.length ≤ 1099511627776) (hs : s < t.mv.length) (hgk : g.kinds.length ≤ 1024) (hgs : 0 ≤ g.start ∧ g.start < g.rules.length) (hgl : g.rules.length ≤ 1099511627776) :
    Calls Try.prog 70 #[.pointer (some ⟨b, 0, none⟩), .int .i64 s] w fun e w' => ∃ v, e = .returned v ∧ v = .bool (dec (AccOk g t s)) ∧ Holds w [] w' := by
  refine calls_of Try.func70 rfl Try.ntmps70 rfl ?_
  have H := Holds.start w
  refine wc_seq ?_
  refine wc_region ?_
  refine wl_v rfl rfl rfl (v_assign rfl) ?_
  refine wl_nil ?_
  refine wc_seq ?_
  refine wc_seq ?_
  refine wc_region ?_
  refine wl_v rfl rfl rfl (v_move rfl) ?_
  refine wl_v rfl rfl rfl (v_eql rfl rfl) ?_
  refine wl_nil ?_
  refine wc_cond rfl (fun c0 => ?_) (fun c0 => ?_)
  ·have c0p := of_decide_eq_true c0
   refine wc_seq ?_
   refine wc_region ?_
   refine wl_v rfl rfl rfl (v_assign rfl) ?_
   refine wl_nil ?_
   refine wc_ret ?_
   first
     | exact ⟨_, res1 rfl rfl, congrArg Value.bool (dec_f fun hh => hh.1 (by omega)).symm, H.pm (Pm.nil _)⟩
     | exact ⟨_, res1 rfl rfl, congrArg Value.bool (dec_t ⟨by omega, fun q x he => by (obtain ⟨i, hi, e1⟩ := eds_mem hE he; have h_ := (hok i (by omega)).1; rw [e1] at h_; exact h_ rfl), fun q x he => by (obtain ⟨i, hi, e1⟩ := eds_mem hE he; have h_ := (hok i (by omega)).2; rw [e1] at h_; have h2_ := h_ rfl; dsimp only at h2_; omega)⟩).symm, H.pm (Pm.nil _)⟩
     | exact ⟨_, res1 rfl rfl, congrArg Value.bool (dec_f fun hh => by (obtain ⟨sf, q, hf1, ht1, he1⟩ := eds_at hE (i := ke) (by omega); have e1_ : q = 0 := (by omega); subst e1_; exact hh.2.1 _ _ he1)).symm, H.pm (Pm.nil _)⟩
     | exact ⟨_, res1 rfl rfl, congrArg Value.bool (dec_f fun hh => by (obtain ⟨sf, q, hf1, ht1, he1⟩ := eds_at hE (i := ke) (by omega); have e1_ : q = s := (by omega); subst e1_; have h2_ := hh.2.2 _ _ he1; omega)).symm, H.pm (Pm.nil _)⟩
  ·have c0p := of_decide_eq_false c0
   refine wc_skip ?_
   refine wc_seq ?_
   refine wc_seq ?_
   refine wc_region ?_
   refine wl_v rfl rfl rfl (v_assign rfl) ?_
   refine wl_nil ?_
   refine wc_block ?_
   refine wc_loop (σ := Nat) (fun s' => [(0, .pointer (some ⟨b, 0, none⟩)), (1, .int .i64 s), (5, .int .i64 s')]) (fun s' W => (s' ≤ E.length ∧ ∀ i, i < s' → ¬ (E.getD i ed0).to = 0 ∧ ((E.getD i ed0).to = s → (E.getD i ed0).fr = 0 ∧ (E.getD i ed0).sy = (g.kinds.length : Int) + g.start)) ∧ Holds w [] W) (fun s' => E.length - s') 0 (sc rfl (sc rfl (sc rfl (sn _)))) ⟨⟨Nat.zero_le _, upto_zero⟩, H.pm (Pm.nil _)⟩ ?_
   rintro ke W0 ⟨⟨hke, hok⟩, H⟩
   refine wc_seq ?_
   refine wc_seq ?_
   refine wc_region ?_
   refine wl_v rfl rfl rfl (v_move rfl) ?_
   refine wl_v rfl rfl rfl (v_move rfl) ?_
   refine wl_v rfl rfl rfl (v_nil rfl) ?_
   refine wl_v rfl rfl rfl (v_fb (o2 := 7) fa103_2 rfl rfl) ?_
   refine wl_v rfl rfl rfl (v_load one101 rfl (H.cell (hW 7 _ rfl))) ?_
   refine wl_v rfl rfl rfl (v_len Try.underlying101 rfl) ?_
   refine wl_v rfl rfl rfl (v_lss rfl rfl) ?_
   refine wl_nil ?_
   refine wc_cond rfl (fun c1 => ?_) (fun c1 => ?_)
   ·have c1p := of_decide_eq_true c1
    refine wc_skip ?_
    refine wc_seq ?_
    refine wc_block ?_
    refine wc_seq ?_
    refine wc_region ?_
    refine wl_v rfl rfl rfl (v_move rfl) ?_
    refine wl_v rfl rfl rfl (v_nil rfl) ?_
    refine wl_v rfl rfl rfl (v_fb (o2 := 7) fa103_2 rfl rfl) ?_
    refine wl_v rfl rfl rfl (v_load one101 rfl (H.cell (hW 7 _ rfl))) ?_
    refine wl_v rfl rfl rfl (v_move rfl) ?_
    refine wl_v rfl rfl rfl (v_idx Try.underlying101 sz106 hEd.ad rfl rfl (by omega) (by omega)) ?_
    refine wl_v rfl rfl rfl (v_loadN (cs := fEd.enc _) agg106 rfl rfl (fun k u hu => H.cell (hEd.atN (i := ke) (k := k) ed0 (by omega) hu))) ?_
    refine wl_alloc (cs := [.int .i64 0, .int .i64 0, .int .i64 0]) H rfl zv106 rfl ?_
    intro b6 w1 hb6 H2
    refine wl_store (vs := [_, _, _]) H2 (by repeat constructor) sz106 rfl rfl rfl rfl rfl (by (repeat constructor)) ?_
    intro w3 H4 hw3
    refine wl_nil ?_
    refine wc_seq ?_
    refine wc_still mixed (by kernel_rfl) ?_
    have Hd := H4.drew
    refine ws_v rfl rfl rfl (v_fb (o2 := 2) fa106_2 rfl rfl) ?_
    refine ws_v rfl rfl rfl (v_load one3 rfl (Hd.at (by repeat constructor) rfl)) ?_
    refine ws_v rfl rfl rfl (v_eql rfl rfl) ?_
    refine ws_v rfl rfl rfl (v_move rfl) ?_
    refine ws_guard rfl rfl rfl (fun g28 => ?_) (fun g28 => ?_)
    ·have g28p := of_decide_eq_false g28
     refine ws_v rfl rfl rfl (v_fb (o2 := 2) fa106_2 rfl rfl) ?_
     refine ws_on' rfl rfl g28 ?_
     refine ws_v rfl rfl rfl (v_load one3 rfl (Hd.at (by repeat constructor) rfl)) ?_
     refine ws_on' rfl rfl g28 ?_
     refine ws_v rfl rfl rfl (v_move rfl) ?_
     refine ws_on' rfl rfl g28 ?_
     refine ws_v rfl rfl rfl (v_eql rfl rfl) ?_
     refine ws_on' rfl rfl g28 ?_
     refine ws_v rfl rfl rfl (v_move rfl) ?_
     refine ws_guard rfl rfl rfl (fun g33 => ?_) (fun g33 => ?_)
     ·have g33p := of_decide_eq_true g33
      refine ws_v rfl rfl rfl (v_fb (o2 := 0) fa106_0 rfl rfl) ?_
      refine ws_on' rfl rfl g33 ?_
      refine ws_v rfl rfl rfl (v_load one3 rfl (Hd.at (by repeat constructor) rfl)) ?_
      refine ws_on' rfl rfl g33 ?_
      refine ws_v rfl rfl rfl (v_neq rfl rfl) ?_
      refine ws_on' rfl rfl g33 ?_
      refine ws_v rfl rfl rfl (v_move rfl) ?_
      refine ws_guard rfl rfl rfl (fun g37 => ?_) (fun g37 => ?_)
      ·have g37p := of_nd_f g37
       refine ws_v rfl rfl rfl (v_fb (o2 := 1) fa106_1 rfl rfl) ?_
       refine ws_on' rfl rfl g37 ?_
       refine ws_v rfl rfl rfl (v_load one3 rfl (Hd.at (by repeat constructor) rfl)) ?_
       refine ws_on' rfl rfl g37 ?_
       refine ws_v rfl rfl rfl (v_move rfl) ?_
       refine ws_on' rfl rfl g37 ?_
       refine ws_v rfl rfl rfl (v_nil rfl) ?_
       refine ws_on' rfl rfl g37 ?_
       refine ws_v rfl rfl rfl (v_fb (o2 := 0) fa103_0 rfl rfl) ?_
       refine ws_on' rfl rfl g37 ?_
       refine ws_v rfl rfl rfl (v_fb (o2 := 0) fa53_0 rfl rfl) ?_
       refine ws_on' rfl rfl g37 ?_
       refine ws_v rfl rfl rfl (v_load one49 rfl (Hd.cell (hW 0 _ rfl))) ?_
       refine ws_on' rfl rfl g37 ?_
       refine ws_v rfl rfl rfl (v_len Try.underlying49 rfl) ?_
       refine ws_on' rfl rfl g37 ?_
       refine ws_v rfl rfl rfl (v_move rfl) ?_
       refine ws_on' rfl rfl g37 ?_
       refine ws_v rfl rfl rfl (v_nil rfl) ?_
       refine ws_on' rfl rfl g37 ?_
       refine ws_v rfl rfl rfl (v_fb (o2 := 0) fa103_0 rfl rfl) ?_
       refine ws_on' rfl rfl g37 ?_
       refine ws_v rfl rfl rfl (v_fb (o2 := 4) fa53_4 rfl rfl) ?_
       refine ws_on' rfl rfl g37 ?_
       refine ws_v rfl rfl rfl (v_load one3 rfl (Hd.cell (hW 4 _ rfl))) ?_
       refine ws_on' rfl rfl g37 ?_
       refine ws_v rfl rfl rfl (v_addi rfl rfl (by omega)) ?_
       refine ws_on' rfl rfl g37 ?_
       refine ws_v rfl rfl rfl (v_neq rfl rfl) ?_
       refine ws_on' rfl rfl g33 ?_
       refine ws_v rfl rfl rfl (v_pick_f rfl g37 rfl) ?_
       refine ws_on' rfl rfl g28 ?_
       refine ws_v rfl rfl rfl (v_pick_t rfl g33 rfl) ?_
       refine ws_v rfl rfl rfl (v_pick_f rfl g28 rfl) ?_
       refine ws_nil ?_
       refine wc_cond rfl (fun c2 => ?_) (fun c2 => ?_)
       ·have c2p := of_nd_t c2
        refine wc_seq ?_
        refine wc_region ?_
        refine wl_v rfl rfl rfl (v_assign rfl) ?_
        refine wl_nil ?_
        refine wc_ret ?_
        first
          | exact ⟨_, res1 rfl rfl, congrArg Value.bool (dec_f fun hh => hh.1 (by omega)).symm, Hd.pm (Pm.nil _)⟩
          | exact ⟨_, res1 rfl rfl, congrArg Value.bool (dec_t ⟨by omega, fun q x he => by (obtain ⟨i, hi, e1⟩ := eds_mem hE he; have h_ := (hok i (by omega)).1; rw [e1] at h_; exact h_ rfl), fun q x he => by (obtain ⟨i, hi, e1⟩ := eds_mem hE he; have h_ := (hok i (by omega)).2; rw [e1] at h_; have h2_ := h_ rfl; dsimp only at h2_; omega)⟩).symm, Hd.pm (Pm.nil _)⟩
          | exact ⟨_, res1 rfl rfl, congrArg Value.bool (dec_f fun hh => by (obtain ⟨sf, q, hf1, ht1, he1⟩ := eds_at hE (i := ke) (by omega); have e1_ : q = 0 := (by omega); subst e1_; exact hh.2.1 _ _ he1)).symm, Hd.pm (Pm.nil _)⟩
          | exact ⟨_, res1 rfl rfl, congrArg Value.bool (dec_f fun hh => by (obtain ⟨sf, q, hf1, ht1, he1⟩ := eds_at hE (i := ke) (by omega); have e1_ : q = s := (by omega); subst e1_; have h2_ := hh.2.2 _ _ he1; omega)).symm, Hd.pm (Pm.nil _)⟩
       ·have c2p := of_nd_f c2
        refine wc_skip ?_
        refine wc_region ?_
        refine wl_v rfl rfl rfl (v_move rfl) ?_
        refine wl_v rfl rfl rfl (v_addi rfl rfl (by omega)) ?_
        refine wl_v rfl rfl rfl (v_assign rfl) ?_
        refine wl_nil ?_
        exact ⟨ke + 1, (sc rfl (sc rfl (sc rfl (sn _)))), ⟨⟨by omega, upto_succ hok ⟨by omega, fun h_ => by first | exact ⟨by omega, by omega⟩ | omega⟩⟩, Hd.pm (Pm.nil _)⟩, by omega⟩
      ·have g37p := of_nd_t g37
       refine ws_off rfl rfl g37 rfl ?_
       refine ws_off rfl rfl g37 rfl ?_
       refine ws_off rfl rfl g37 rfl ?_
       refine ws_off rfl rfl g37 rfl ?_
       refine ws_off rfl rfl g37 rfl ?_
       refine ws_off rfl rfl g37 rfl ?_
       refine ws_off rfl rfl g37 rfl ?_
       refine ws_off rfl rfl g37 rfl ?_
       refine ws_off rfl rfl g37 rfl ?_
       refine ws_off rfl rfl g37 rfl ?_
       refine ws_off rfl rfl g37 rfl ?_
       refine ws_off rfl rfl g37 rfl ?_
       refine ws_off rfl rfl g37 rfl ?_
       refine ws_off rfl rfl g37 rfl ?_
       refine ws_on' rfl rfl g33 ?_
       refine ws_v rfl rfl rfl (v_pick_t rfl g37 rfl) ?_
       refine ws_on' rfl rfl g28 ?_
       refine ws_v rfl rfl rfl (v_pick_t rfl g33 rfl) ?_
       refine ws_v rfl rfl rfl (v_pick_f rfl g28 rfl) ?_
       refine ws_nil ?_
       refine wc_cond_t rfl ?_
       refine wc_seq ?_
       refine wc_region ?_
       refine wl_v rfl rfl rfl (v_assign rfl) ?_
       refine wl_nil ?_
       refine wc_ret ?_
       first
         | exact ⟨_, res1 rfl rfl, congrArg Value.bool (dec_f fun hh => hh.1 (by omega)).symm, Hd.pm (Pm.nil _)⟩
         | exact ⟨_, res1 rfl rfl, congrArg Value.bool (dec_t ⟨by omega, fun q x he => by (obtain ⟨i, hi, e1⟩ := eds_mem hE he; have h_ := (hok i (by omega)).1; rw [e1] at h_; exact h_ rfl), fun q x he => by (obtain ⟨i, hi, e1⟩ := eds_mem hE he; have h_ := (hok i (by omega)).2; rw [e1] at h_; have h2_ := h_ rfl; dsimp only at h2_; omega)⟩).symm, Hd.pm (Pm.nil _)⟩
         | exact ⟨_, res1 rfl rfl, congrArg Value.bool (dec_f fun hh => by (obtain ⟨sf, q, hf1, ht1, he1⟩ := eds_at hE (i := ke) (by omega); have e1_ : q = 0 := (by omega); subst e1_; exact hh.2.1 _ _ he1)).symm, Hd.pm (Pm.nil _)⟩
         | exact ⟨_, res1 rfl rfl, congrArg Value.bool (dec_f fun hh => by (obtain ⟨sf, q, hf1, ht1, he1⟩ := eds_at hE (i := ke) (by omega); have e1_ : q = s := (by omega); subst e1_; have h2_ := hh.2.2 _ _ he1; omega)).symm, Hd.pm (Pm.nil _)⟩
     ·have g33p := of_decide_eq_false g33
      refine ws_off rfl rfl g33 rfl ?_
      refine ws_off rfl rfl g33 rfl ?_
      refine ws_off rfl rfl g33 rfl ?_
      refine ws_offu rfl rfl rfl ?_
      refine ws_offu rfl rfl rfl ?_
      refine ws_offu rfl rfl rfl ?_
      refine ws_offu rfl rfl rfl ?_
      refine ws_offu rfl rfl rfl ?_
      refine ws_offu rfl rfl rfl ?_
      refine ws_offu rfl rfl rfl ?_
      refine ws_offu rfl rfl rfl ?_
      refine ws_offu rfl rfl rfl ?_
      refine ws_offu rfl rfl rfl ?_
      refine ws_offu rfl rfl rfl ?_
      refine ws_offu rfl rfl rfl ?_
      refine ws_offu rfl rfl rfl ?_
      refine ws_offu rfl rfl rfl ?_
      refine ws_offu rfl rfl rfl ?_
      refine ws_off rfl rfl g33 rfl ?_
      refine ws_on' rfl rfl g28 ?_
      refine ws_v rfl rfl rfl (v_pick_f rfl g33 rfl) ?_
      refine ws_v rfl rfl rfl (v_pick_f rfl g28 rfl) ?_
      refine ws_nil ?_
      refine wc_cond_f rfl ?_
      refine wc_skip ?_
      refine wc_region ?_
      refine wl_v rfl rfl rfl (v_move rfl) ?_
      refine wl_v rfl rfl rfl (v_addi rfl rfl (by omega)) ?_
      refine wl_v rfl rfl rfl (v_assign rfl) ?_
      refine wl_nil ?_
      exact ⟨ke + 1, (sc rfl (sc rfl (sc rfl (sn _)))), ⟨⟨by omega, upto_succ hok ⟨by omega, fun h_ => by first | exact ⟨by omega, by omega⟩ | omega⟩⟩, Hd.pm (Pm.nil _)⟩, by omega⟩
    ·have g28p := of_decide_eq_true g28
     refine ws_off rfl rfl g28 rfl ?_
     refine ws_off rfl rfl g28 rfl ?_
     refine ws_off rfl rfl g28 rfl ?_
     refine ws_off rfl rfl g28 rfl ?_
     refine ws_offu rfl rfl rfl ?_
     refine ws_offu rfl rfl rfl ?_
     refine ws_offu rfl rfl rfl ?_
     refine ws_offu rfl rfl rfl ?_
     refine ws_offu rfl rfl rfl ?_
     refine ws_offu rfl rfl rfl ?_
     refine ws_offu rfl rfl rfl ?_
     refine ws_offu rfl rfl rfl ?_
     refine ws_offu rfl rfl rfl ?_
     refine ws_offu rfl rfl rfl ?_
     refine ws_offu rfl rfl rfl ?_
     refine ws_offu rfl rfl rfl ?_
     refine ws_offu rfl rfl rfl ?_
     refine ws_offu rfl rfl rfl ?_
     refine ws_offu rfl rfl rfl ?_
     refine ws_offu rfl rfl rfl ?_
     refine ws_offu rfl rfl rfl ?_
     refine ws_offu rfl rfl rfl ?_
     refine ws_offu rfl rfl rfl ?_
     refine ws_offu rfl rfl rfl ?_
     refine ws_off rfl rfl g28 rfl ?_
     refine ws_v rfl rfl rfl (v_pick_t rfl g28 rfl) ?_
     refine ws_nil ?_
     refine wc_cond_t rfl ?_
     refine wc_seq ?_
     refine wc_region ?_
     refine wl_v rfl rfl rfl (v_assign rfl) ?_
     refine wl_nil ?_
     refine wc_ret ?_
     first
       | exact ⟨_, res1 rfl rfl, congrArg Value.bool (dec_f fun hh => hh.1 (by omega)).symm, Hd.pm (Pm.nil _)⟩
       | exact ⟨_, res1 rfl rfl, congrArg Value.bool (dec_t ⟨by omega, fun q x he => by (obtain ⟨i, hi, e1⟩ := eds_mem hE he; have h_ := (hok i (by omega)).1; rw [e1] at h_; exact h_ rfl), fun q x he => by (obtain ⟨i, hi, e1⟩ := eds_mem hE he; have h_ := (hok i (by omega)).2; rw [e1] at h_; have h2_ := h_ rfl; dsimp only at h2_; omega)⟩).symm, Hd.pm (Pm.nil _)⟩
       | exact ⟨_, res1 rfl rfl, congrArg Value.bool (dec_f fun hh => by (obtain ⟨sf, q, hf1, ht1, he1⟩ := eds_at hE (i := ke) (by omega); have e1_ : q = 0 := (by omega); subst e1_; exact hh.2.1 _ _ he1)).symm, Hd.pm (Pm.nil _)⟩
       | exact ⟨_, res1 rfl rfl, congrArg Value.bool (dec_f fun hh => by (obtain ⟨sf, q, hf1, ht1, he1⟩ := eds_at hE (i := ke) (by omega); have e1_ : q = s := (by omega); subst e1_; have h2_ := hh.2.2 _ _ he1; omega)).symm, Hd.pm (Pm.nil _)⟩
   ·have c1p := of_decide_eq_false c1
    refine wc_exit ?_
    refine wc_seq ?_
    refine wc_region ?_
    refine wl_v rfl rfl rfl (v_assign rfl) ?_
    refine wl_nil ?_
    refine wc_ret ?_
    first
      | exact ⟨_, res1 rfl rfl, congrArg Value.bool (dec_f fun hh => hh.1 (by omega)).symm, H.pm (Pm.nil _)⟩
      | exact ⟨_, res1 rfl rfl, congrArg Value.bool (dec_t ⟨by omega, fun q x he => by (obtain ⟨i, hi, e1⟩ := eds_mem hE he; have h_ := (hok i (by omega)).1; rw [e1] at h_; exact h_ rfl), fun q x he => by (obtain ⟨i, hi, e1⟩ := eds_mem hE he; have h_ := (hok i (by omega)).2; rw [e1] at h_; have h2_ := h_ rfl; dsimp only at h2_; omega)⟩).symm, H.pm (Pm.nil _)⟩
      | exact ⟨_, res1 rfl rfl, congrArg Value.bool (dec_f fun hh => by (obtain ⟨sf, q, hf1, ht1, he1⟩ := eds_at hE (i := ke) (by omega); have e1_ : q = 0 := (by omega); subst e1_; exact hh.2.1 _ _ he1)).symm, H.pm (Pm.nil _)⟩
      | exact ⟨_, res1 rfl rfl, congrArg Value.bool (dec_f fun hh => by (obtain ⟨sf, q, hf1, ht1, he1⟩ := eds_at hE (i := ke) (by omega); have e1_ : q = s := (by omega); subst e1_; have h2_ := hh.2.2 _ _ he1; omega)).symm, H.pm (Pm.nil _)⟩
end Go.Proofs.Ytkpehkadammppaa.REndsW

/-! Is a state as it must be? (the document's) -/
namespace Go.Proofs.Ytkpehkadammppaa.RRight
open Go Go.RowKit Go.Proofs.YtkpehkadammppaaFx Go.Proofs.Ytkpehkadammppaa.REndsW
theorem agg130 : Agg Try.prog 130 7 := agg_of Try.underlying130 (by kernel_rfl)
theorem agg48 : Agg Try.prog 48 2 := agg_of Try.underlying48 (by kernel_rfl)
theorem en69 : Enters Try.prog 69 := enters Try.func69 (by kernel_rfl) rfl
theorem en70 : Enters Try.prog 70 := enters Try.func70 (by kernel_rfl) rfl
theorem fa103_0 : FieldAt Try.prog 103 0 0 := field_at (sz := 4) Try.underlying103 rfl (by kernel_rfl) rfl
theorem fa103_1 : FieldAt Try.prog 103 1 5 := field_at (sz := 1) Try.underlying103 rfl (by kernel_rfl) rfl
theorem fa130_0 : FieldAt Try.prog 130 0 0 := field_at (sz := 0) Try.underlying130 rfl (by kernel_rfl) rfl
theorem fa130_1 : FieldAt Try.prog 130 1 1 := field_at (sz := 0) Try.underlying130 rfl (by kernel_rfl) rfl
theorem fa25_0 : FieldAt Try.prog 25 0 0 := field_at (sz := 0) Try.underlying25 rfl (by kernel_rfl) rfl
theorem fa48_0 : FieldAt Try.prog 48 0 0 := field_at (sz := 0) Try.underlying48 rfl (by kernel_rfl) rfl
theorem fa48_1 : FieldAt Try.prog 48 1 1 := field_at (sz := 0) Try.underlying48 rfl (by kernel_rfl) rfl
theorem fa53_3 : FieldAt Try.prog 53 3 3 := field_at (sz := 0) Try.underlying53 rfl (by kernel_rfl) rfl
theorem mixed : Try.prog.follows .mixedOrders = true := by kernel_rfl
theorem one22 : One Try.prog 22 := one_of Try.underlying22 rfl (by kernel_rfl)
theorem one3 : One Try.prog 3 := one_of Try.underlying3 rfl (by kernel_rfl)
theorem one38 : One Try.prog 38 := one_of Try.underlying38 rfl (by kernel_rfl)
theorem one39 : One Try.prog 39 := one_of Try.underlying39 rfl (by kernel_rfl)
theorem one51 : One Try.prog 51 := one_of Try.underlying51 rfl (by kernel_rfl)
theorem sz130 : ∀ W, (sizeOf 130).run Try.prog W = .ok 7 W := size_of (by kernel_rfl)
theorem sz38 : ∀ W, (sizeOf 38).run Try.prog W = .ok 1 W := size_of (by kernel_rfl)
theorem sz48 : ∀ W, (sizeOf 48).run Try.prog W = .ok 2 W := size_of (by kernel_rfl)
theorem zv130 : ∀ W, (zeroValue 130).run Try.prog W = .ok (.agg #[.int .i64 0, .slice none 0 0, .int .i64 0, .int .i64 0, .int .i64 0, .string ⟨#[]⟩, .slice none 0 0]) W := zero_of (by kernel_rfl)
theorem zv48 : ∀ W, (zeroValue 48).run Try.prog W = .ok (.agg #[.int .i64 0, .int .i64 0]) W := zero_of (by kernel_rfl)

set_option maxHeartbeats 6400000 in
set_option maxRecDepth 100000 in
theorem rright_calls {g : Pl} {a : PlA} {t : Tb} {A B Ae : Option Addr} {ca cb ce b s : Nat} {E : List Ed} {mvv : Value} {w : World} (hW : ∀ j v, ([.slice a.k g.kinds.length a.ck, .slice a.p g.precs.length a.cp, .slice a.r g.rules.length a.cr, .slice a.q g.prods.length a.cq, .int .i64 g.start, .slice A t.mv.length ca, .slice B t.go.length cb, .slice Ae E.length ce, mvv] : List Value)[j]? = some v → w.cell? ⟨b, j, none⟩ = some v) (hx : t.rd w A B) (hf : Fit2 g t) (hEd : Rd fEd.kn w Ae E) (hE : EdsOk g t E) (hl : E.length ≤ 1099511627776) (hs : s < t.mv.length) (hr : g.rd w a) (hG : GOk g) (hk : t.ok) :
    Calls Try.prog 49 #[.pointer (some ⟨b, 0, none⟩), .int .i64 s] w fun e w' => ∃ v, e = .returned v ∧ v = .bool (dec (StOk g t s)) ∧ Holds w [] w' := by
  have hn1 := hf.1
  have hn2 := hf.2.1
  have hng := hf.2.2.1
  obtain ⟨hrw1, hrw2, hrw3, hrw4⟩ := hf.2.2.2 s hs
  have hml := hk.ml (i := s) (by omega)
  have hGk := hG.1.1.1.2.1
  have hGr := hG.1.2.2.2.1.2
  have hGs := hG.2.1.1
  have hGp := hG.2.1.2
  have hPr := hG.2.2
  refine calls_of Try.func49 rfl Try.ntmps49 rfl ?_
  have H := Holds.start w
  refine wc_seq ?_
  refine wc_region ?_
  refine wl_v rfl rfl rfl (v_assign rfl) ?_
  refine wl_nil ?_
  refine wc_seq ?_
  refine wc_seq ?_
  refine wc_region ?_
  refine wl_v rfl rfl rfl (v_assign rfl) ?_
  refine wl_nil ?_
  refine wc_block ?_
  refine wc_loop (σ := Nat) (fun s' => [(0, .pointer (some ⟨b, 0, none⟩)), (1, .int .i64 s), (5, .int .i64 s')]) (fun s' W => (s' ≤ (t.mv.getD s []).length ∧ ∀ j, j < s' → MvS g t s j) ∧ Holds w [] W) (fun s' => (t.mv.getD s []).length - s') 0 (sc rfl (sc rfl (sc rfl (sn _)))) ⟨⟨Nat.zero_le _, upto_zero⟩, H.pm (Pm.nil _)⟩ ?_
  rintro kj W0 ⟨⟨hkj, hok⟩, H⟩
  refine wc_seq ?_
  refine wc_seq ?_
  refine wc_region ?_
  refine wl_v rfl rfl rfl (v_move rfl) ?_
  refine wl_v rfl rfl rfl (v_move rfl) ?_
  refine wl_v rfl rfl rfl (v_nil rfl) ?_
  refine wl_v rfl rfl rfl (v_fb (o2 := 5) fa103_1 rfl rfl) ?_
  refine wl_v rfl rfl rfl (v_fb (o2 := 5) fa25_0 rfl rfl) ?_
  refine wl_v rfl rfl rfl (v_load one22 rfl (H.cell (hW 5 _ rfl))) ?_
  refine wl_v rfl rfl rfl (v_move rfl) ?_
  refine wl_v rfl rfl rfl (v_idx Try.underlying22 sz38 hx.m.ad rfl rfl (by omega) (by omega)) ?_
  obtain ⟨B16, cp16, hc16, hl16, hr16⟩ := hx.m.atSlN (i := s) (by omega)
  refine wl_v rfl rfl rfl (v_load one38 rfl (H.cell (hc16))) ?_
  refine wl_v rfl rfl rfl (v_len Try.underlying38 rfl) ?_
  refine wl_v rfl rfl rfl (v_lss rfl rfl) ?_
  refine wl_nil ?_
  refine wc_cond rfl (fun c0 => ?_) (fun c0 => ?_)
  ·have c0p := of_decide_eq_true c0
   refine wc_skip ?_
   refine wc_seq ?_
   refine wc_block ?_
   refine wc_seq ?_
   refine wc_region ?_
   refine wl_v rfl rfl rfl (v_move rfl) ?_
   refine wl_v rfl rfl rfl (v_nil rfl) ?_
   refine wl_v rfl rfl rfl (v_fb (o2 := 5) fa103_1 rfl rfl) ?_
   refine wl_v rfl rfl rfl (v_fb (o2 := 5) fa25_0 rfl rfl) ?_
   refine wl_v rfl rfl rfl (v_load one22 rfl (H.cell (hW 5 _ rfl))) ?_
   refine wl_v rfl rfl rfl (v_move rfl) ?_
   refine wl_v rfl rfl rfl (v_idx Try.underlying22 sz38 hx.m.ad rfl rfl (by omega) (by omega)) ?_
   obtain ⟨B28, cp28, hc28, hl28, hr28⟩ := hx.m.atSlN (i := s) (by omega)
   refine wl_v rfl rfl rfl (v_load one38 rfl (H.cell (hc28))) ?_
   refine wl_v rfl rfl rfl (v_move rfl) ?_
   refine wl_v rfl rfl rfl (v_idx Try.underlying38 sz48 hr28.ad rfl rfl (by omega) (by omega)) ?_
   refine wl_v rfl rfl rfl (v_loadN (cs := fMv.enc _) agg48 rfl rfl (fun k u hu => H.cell (hr28.atN (i := kj) (k := k) mv0 (by omega) hu))) ?_
   refine wl_alloc (cs := [.int .i64 0, .int .i64 0]) H rfl zv48 rfl ?_
   intro b6 w1 hb6 H2
   refine wl_store (vs := [_, _]) H2 (by repeat constructor) sz48 rfl rfl rfl rfl rfl (by (repeat constructor)) ?_
   intro w3 H4 hw3
   refine wl_nil ?_
   refine wc_seq ?_
   refine wc_region ?_
   refine wl_v rfl rfl rfl (v_fb (o2 := 0) fa48_0 rfl rfl) ?_
   refine wl_v rfl rfl rfl (v_load one3 rfl (H4.at (by repeat constructor) rfl)) ?_
   refine wl_nil ?_
   refine wc_block ?_
   refine wc_seq ?_
   refine wc_region ?_
   refine wl_v rfl rfl rfl (v_eql rfl rfl) ?_
   refine wl_v rfl rfl rfl (v_assign rfl) ?_
   refine wl_nil ?_
   refine wc_cond rfl (fun c1 => ?_) (fun c1 => ?_)
   ·have c1p := of_decide_eq_true c1
    obtain ⟨pi, hq0, hpl⟩ : ∃ pi : Nat, ((t.mv.getD s []).getD kj mv0).n = (pi : Int) ∧ pi < g.prods.length := by
      have h_ := hrw3 kj (by omega)
      unfold mvOk at h_
      exact ⟨((t.mv.getD s []).getD kj mv0).n.toNat, by omega, by omega⟩
    refine wc_seq ?_
    refine wc_tree [0, 1, 2, 3, 4, 5, 6, 7, 8] (fun W => Holds w [Blk b6 48 [.int .i64 ((t.mv.getD s []).getD kj mv0).d, .int .i64 ((t.mv.getD s []).getD kj mv0).n]] W) mixed ?_
    have Hd := H4.drew
    have HSd : Holds w [Blk b6 48 [.int .i64 ((t.mv.getD s []).getD kj mv0).d, .int .i64 ((t.mv.getD s []).getD kj mv0).n]] _ := Hd.pm (by repeat constructor)
    refine wj_v (k := 0) rfl (by kernel_rfl) (fun _ _ _ h => h) HSd rfl rfl rfl (fun W HW => v_move rfl) ?_
    refine wj_v (k := 1) rfl (by kernel_rfl) (fun _ _ _ h => h) HSd rfl rfl rfl (fun W HW => v_nil rfl) ?_
    refine wj_v (k := 2) rfl (by kernel_rfl) (fun _ _ _ h => h) HSd rfl rfl rfl (fun W HW => v_fb (o2 := 0) fa103_0 rfl rfl) ?_
    refine wj_v (k := 3) rfl (by kernel_rfl) (fun _ _ _ h => h) HSd rfl rfl rfl (fun W HW => v_fb (o2 := 3) fa53_3 rfl rfl) ?_
    refine wj_v (k := 4) rfl (by kernel_rfl) (fun _ _ _ h => h) HSd rfl rfl rfl (fun W HW => v_load one51 rfl (HW.cell (hW 3 _ rfl))) ?_
    refine wj_v (k := 5) rfl (by kernel_rfl) (fun _ _ _ h => h) HSd rfl rfl rfl (fun W HW => v_fb (o2 := 1) fa48_1 rfl rfl) ?_
    refine wj_v (k := 6) rfl (by kernel_rfl) (fun _ _ _ h => h) HSd rfl rfl rfl (fun W HW => v_load one3 rfl (HW.at (by repeat constructor) rfl)) ?_
    refine wj_v (k := 7) rfl (by kernel_rfl) (fun _ _ _ h => h) HSd rfl rfl rfl (fun W HW => v_idx Try.underlying51 sz130 hr.q.ad rfl rfl (by omega) (by omega)) ?_
    obtain ⟨R44_, c44_, B44_, k44_, hc44_, hl44_, hR44_, hB44_⟩ := hr.q.atPr (i := pi) (by omega)
    rw [← hq0] at hc44_
    refine wj_v (k := 8) rfl (by kernel_rfl) (fun _ _ _ h => h) HSd rfl rfl rfl (fun W HW => v_loadN (cs := [.int .i64 (g.prods.getD pi pr0).left, .slice R44_ (g.prods.getD pi pr0).right.length c44_, .int .i64 (g.prods.getD pi pr0).level, .int .i64 (g.prods.getD pi pr0).act.x.kind, .int .i64 (g.prods.getD pi pr0).act.x.at_, .string (g.prods.getD pi pr0).act.x.name, .slice B44_ (g.prods.getD pi pr0).act.kids.length k44_]) agg130 rfl rfl (fun q_ u_ hu_ => HW.cell (hc44_ q_ u_ hu_))) ?_
    refine wj_t (k := 9) rfl (by kernel_rfl) ?_
    refine wl_alloc (cs := [.int .i64 0, .slice none 0 0, .int .i64 0, .int .i64 0, .int .i64 0, .string ⟨#[]⟩, .slice none 0 0]) Hd rfl zv130 rfl ?_
    intro b7 w5 hb7 H6
    have HS7 : Holds w [Blk b6 48 [.int .i64 ((t.mv.getD s []).getD kj mv0).d, .int .i64 ((t.mv.getD s []).getD kj mv0).n]] _ := H6.pm (by repeat constructor)
    refine wl_nil (tn ⟨fun _ => HS7, ?_⟩)
    refine wj_t (k := 10) rfl (by kernel_rfl) ?_
    refine wl_store (vs := [_, _, _, _, _, _, _]) H6 (by repeat constructor) sz130 rfl rfl rfl rfl rfl (by (repeat constructor)) ?_
    intro w8 H9 hw8
    refine wl_nil (tn ⟨fun hlt => absurd hlt (by rw [show allH _ _ _ = true by kernel_rfl]; simp), ?_⟩)
    refine wj_done (by kernel_rfl) ?_
    refine wc_seq ?_
    refine wc_region ?_
    refine wl_v rfl rfl rfl (v_move rfl) ?_
    refine wl_v rfl rfl rfl (v_move rfl) ?_
    refine wl_v rfl rfl rfl (v_fb (o2 := 1) fa130_1 rfl rfl) ?_
    refine wl_v rfl rfl rfl (v_load one39 rfl (H9.at (by repeat constructor) rfl)) ?_
    refine wl_v rfl rfl rfl (v_fb (o2 := 0) fa130_0 rfl rfl) ?_
    refine wl_v rfl rfl rfl (v_load one3 rfl (H9.at (by repeat constructor) rfl)) ?_
    refine wl_call en69 rfl rfl (rends_calls (g := g) (a := a) (p := (g.prods.getD pi pr0)) (mvv := mvv) (fun j_ v_ hv_ => H9.cell (hW j_ v_ hv_)) (hx.below H9.old) hf (hEd.below H9.old) hE hl hs (hR44_.below H9.old) (hPr pi hpl) (by omega)) ?_
    rintro _ w11 ⟨rfl, Hc⟩
    have H12 := H9.call0 Hc
    refine wl_v rfl rfl rfl (v_not rfl) ?_
    refine wl_nil ?_
    refine wc_cond rfl (fun c2 => ?_) (fun c2 => ?_)
    ·have c2p := of_n_t c2
     refine wc_seq ?_
     refine wc_region ?_
     refine wl_v rfl rfl rfl (v_assign rfl) ?_
     refine wl_nil ?_
     refine wc_ret ?_
     first
       | (have q_ := hq0
          exact ⟨_, res1 rfl rfl, congrArg Value.bool (dec_f fun hh => by (have h2_ := of_ndec (of_n_t c2); have h_ := (hh kj (by omega)).1 (by omega); rw [hq0, Int.toNat_natCast] at h_; exact h2_ h_)).symm, H12.pm (Pm.nil _)⟩)
       | (have q_ := c4
          exact ⟨_, res1 rfl rfl, congrArg Value.bool (dec_f fun hh => of_ndec (of_n_t c4) ((hh kj (by omega)).2 (by omega)).2).symm, H12.pm (Pm.nil _)⟩)
       | (have q_ := g57
          exact ⟨_, res1 rfl rfl, congrArg Value.bool (dec_f fun hh => by (have h_ := ((hh kj (by omega)).2 (by omega)).1; omega)).symm, H12.pm (Pm.nil _)⟩)
       | exact ⟨_, res1 rfl rfl, congrArg Value.bool (dec_t fun k hk => hok k (by omega)).symm, H12.pm (Pm.nil _)⟩
    ·have c2p := of_n_f c2
     refine wc_skip ?_
     refine wc_region ?_
     refine wl_v rfl rfl rfl (v_move rfl) ?_
     refine wl_v rfl rfl rfl (v_addi rfl rfl (by omega)) ?_
     refine wl_v rfl rfl rfl (v_assign rfl) ?_
     refine wl_nil ?_
     first
       | (have q_ := hq0
          exact ⟨kj + 1, (sc rfl (sc rfl (sc rfl (sn _)))), ⟨⟨by omega, upto_succ hok ⟨fun _ => by rw [hq0, Int.toNat_natCast]; exact of_dec (of_n_f c2), fun h_ => absurd h_ (by omega)⟩⟩, H12.pm (Pm.nil _)⟩, by omega⟩)
       | (have q_ := c4
          exact ⟨kj + 1, (sc rfl (sc rfl (sc rfl (sn _)))), ⟨⟨by omega, upto_succ hok ⟨fun h_ => absurd h_ (by omega), fun _ => ⟨by omega, of_dec (of_n_f c4)⟩⟩⟩, H12.pm (Pm.nil _)⟩, by omega⟩)
       | exact ⟨kj + 1, (sc rfl (sc rfl (sc rfl (sn _)))), ⟨⟨by omega, upto_succ hok ⟨fun h_ => absurd h_ (by omega), fun h_ => absurd h_ (by omega)⟩⟩, H12.pm (Pm.nil _)⟩, by omega⟩
   ·have c1p := of_decide_eq_false c1
    refine wc_seq ?_
    refine wc_region ?_
    refine wl_v rfl rfl rfl (v_eql rfl rfl) ?_
    refine wl_v rfl rfl rfl (v_assign rfl) ?_
    refine wl_nil ?_
    refine wc_cond rfl (fun c3 => ?_) (fun c3 => ?_)
    ·have c3p := of_decide_eq_true c3
     refine wc_seq ?_
     refine wc_region ?_
     refine wl_v rfl rfl rfl (v_move rfl) ?_
     refine wl_v rfl rfl rfl (v_neq rfl rfl) ?_
     refine wl_v rfl rfl rfl (v_move rfl) ?_
     refine wl_guard rfl rfl rfl (fun g57 => ?_) (fun g57 => ?_)
     ·have g57p := of_nd_f g57
      refine wl_v rfl rfl rfl (v_move rfl) ?_
      refine wl_on' rfl rfl g57 ?_
      refine wl_v rfl rfl rfl (v_move rfl) ?_
      refine wl_on' rfl rfl g57 ?_
      refine wl_call en70 rfl rfl (raccepts_calls (g := g) (a := a) (mvv := mvv) (fun j_ v_ hv_ => H4.cell (hW j_ v_ hv_)) (hx.below H4.old) hf (hEd.below H4.old) hE hl hs hGk hGs (by omega)) ?_
      rintro _ w13 ⟨rfl, Hc⟩
      have H14 := H4.call0 Hc
      refine wl_on' rfl rfl g57 ?_
      refine wl_v rfl rfl rfl (v_not rfl) ?_
      refine wl_v rfl rfl rfl (v_pick_f rfl g57 rfl) ?_
      refine wl_nil ?_
      refine wc_cond rfl (fun c4 => ?_) (fun c4 => ?_)
      ·have c4p := of_n_t c4
       refine wc_seq ?_
       refine wc_region ?_
       refine wl_v rfl rfl rfl (v_assign rfl) ?_
       refine wl_nil ?_
       refine wc_ret ?_
       first
         | (have q_ := hq0
            exact ⟨_, res1 rfl rfl, congrArg Value.bool (dec_f fun hh => by (have h2_ := of_ndec (of_n_t c2); have h_ := (hh kj (by omega)).1 (by omega); rw [hq0, Int.toNat_natCast] at h_; exact h2_ h_)).symm, H14.pm (Pm.nil _)⟩)
         | (have q_ := c4
            exact ⟨_, res1 rfl rfl, congrArg Value.bool (dec_f fun hh => of_ndec (of_n_t c4) ((hh kj (by omega)).2 (by omega)).2).symm, H14.pm (Pm.nil _)⟩)
         | (have q_ := g57
            exact ⟨_, res1 rfl rfl, congrArg Value.bool (dec_f fun hh => by (have h_ := ((hh kj (by omega)).2 (by omega)).1; omega)).symm, H14.pm (Pm.nil _)⟩)
         | exact ⟨_, res1 rfl rfl, congrArg Value.bool (dec_t fun k hk => hok k (by omega)).symm, H14.pm (Pm.nil _)⟩
      ·have c4p := of_n_f c4
       refine wc_skip ?_
       refine wc_region ?_
       refine wl_v rfl rfl rfl (v_move rfl) ?_
       refine wl_v rfl rfl rfl (v_addi rfl rfl (by omega)) ?_
       refine wl_v rfl rfl rfl (v_assign rfl) ?_
       refine wl_nil ?_
       first
         | (have q_ := hq0
            exact ⟨kj + 1, (sc rfl (sc rfl (sc rfl (sn _)))), ⟨⟨by omega, upto_succ hok ⟨fun _ => by rw [hq0, Int.toNat_natCast]; exact of_dec (of_n_f c2), fun h_ => absurd h_ (by omega)⟩⟩, H14.pm (Pm.nil _)⟩, by omega⟩)
         | (have q_ := c4
            exact ⟨kj + 1, (sc rfl (sc rfl (sc rfl (sn _)))), ⟨⟨by omega, upto_succ hok ⟨fun h_ => absurd h_ (by omega), fun _ => ⟨by omega, of_dec (of_n_f c4)⟩⟩⟩, H14.pm (Pm.nil _)⟩, by omega⟩)
         | exact ⟨kj + 1, (sc rfl (sc rfl (sc rfl (sn _)))), ⟨⟨by omega, upto_succ hok ⟨fun h_ => absurd h_ (by omega), fun h_ => absurd h_ (by omega)⟩⟩, H14.pm (Pm.nil _)⟩, by omega⟩
     ·have g57p := of_nd_t g57
      refine wl_off rfl rfl g57 rfl ?_
      refine wl_off rfl rfl g57 rfl ?_
      refine wl_off rfl rfl g57 rfl ?_
      refine wl_v rfl rfl rfl (v_pick_t rfl g57 rfl) ?_
      refine wl_nil ?_
      refine wc_cond_t rfl ?_
      refine wc_seq ?_
      refine wc_region ?_
      refine wl_v rfl rfl rfl (v_assign rfl) ?_
      refine wl_nil ?_
      refine wc_ret ?_
      first
        | (have q_ := hq0
           exact ⟨_, res1 rfl rfl, congrArg Value.bool (dec_f fun hh => by (have h2_ := of_ndec (of_n_t c2); have h_ := (hh kj (by omega)).1 (by omega); rw [hq0, Int.toNat_natCast] at h_; exact h2_ h_)).symm, H4.pm (Pm.nil _)⟩)
        | (have q_ := c4
           exact ⟨_, res1 rfl rfl, congrArg Value.bool (dec_f fun hh => of_ndec (of_n_t c4) ((hh kj (by omega)).2 (by omega)).2).symm, H4.pm (Pm.nil _)⟩)
        | (have q_ := g57
           exact ⟨_, res1 rfl rfl, congrArg Value.bool (dec_f fun hh => by (have h_ := ((hh kj (by omega)).2 (by omega)).1; omega)).symm, H4.pm (Pm.nil _)⟩)
        | exact ⟨_, res1 rfl rfl, congrArg Value.bool (dec_t fun k hk => hok k (by omega)).symm, H4.pm (Pm.nil _)⟩
    ·have c3p := of_decide_eq_false c3
     refine wc_skip ?_
     refine wc_region ?_
     refine wl_v rfl rfl rfl (v_move rfl) ?_
     refine wl_v rfl rfl rfl (v_addi rfl rfl (by omega)) ?_
     refine wl_v rfl rfl rfl (v_assign rfl) ?_
     refine wl_nil ?_
     first
       | (have q_ := hq0
          exact ⟨kj + 1, (sc rfl (sc rfl (sc rfl (sn _)))), ⟨⟨by omega, upto_succ hok ⟨fun _ => by rw [hq0, Int.toNat_natCast]; exact of_dec (of_n_f c2), fun h_ => absurd h_ (by omega)⟩⟩, H4.pm (Pm.nil _)⟩, by omega⟩)
       | (have q_ := c4
          exact ⟨kj + 1, (sc rfl (sc rfl (sc rfl (sn _)))), ⟨⟨by omega, upto_succ hok ⟨fun h_ => absurd h_ (by omega), fun _ => ⟨by omega, of_dec (of_n_f c4)⟩⟩⟩, H4.pm (Pm.nil _)⟩, by omega⟩)
       | exact ⟨kj + 1, (sc rfl (sc rfl (sc rfl (sn _)))), ⟨⟨by omega, upto_succ hok ⟨fun h_ => absurd h_ (by omega), fun h_ => absurd h_ (by omega)⟩⟩, H4.pm (Pm.nil _)⟩, by omega⟩
  ·have c0p := of_decide_eq_false c0
   refine wc_exit ?_
   refine wc_seq ?_
   refine wc_region ?_
   refine wl_v rfl rfl rfl (v_assign rfl) ?_
   refine wl_nil ?_
   refine wc_ret ?_
   first
     | (have q_ := hq0
        exact ⟨_, res1 rfl rfl, congrArg Value.bool (dec_f fun hh => by (have h2_ := of_ndec (of_n_t c2); have h_ := (hh kj (by omega)).1 (by omega); rw [hq0, Int.toNat_natCast] at h_; exact h2_ h_)).symm, H.pm (Pm.nil _)⟩)
     | (have q_ := c4
        exact ⟨_, res1 rfl rfl, congrArg Value.bool (dec_f fun hh => of_ndec (of_n_t c4) ((hh kj (by omega)).2 (by omega)).2).symm, H.pm (Pm.nil _)⟩)
     | (have q_ := g57
        exact ⟨_, res1 rfl rfl, congrArg Value.bool (dec_f fun hh => by (have h_ := ((hh kj (by omega)).2 (by omega)).1; omega)).symm, H.pm (Pm.nil _)⟩)
     | exact ⟨_, res1 rfl rfl, congrArg Value.bool (dec_t fun k hk => hok k (by omega)).symm, H.pm (Pm.nil _)⟩
end Go.Proofs.Ytkpehkadammppaa.RRight

/-! States reached anew from one. -/
namespace Go.Proofs.Ytkpehkadammppaa.FromW
open Go Go.RowKit Go.Proofs.YtkpehkadammppaaFx 
theorem agg48 : Agg Try.prog 48 2 := agg_of Try.underlying48 (by kernel_rfl)
theorem fa103_1 : FieldAt Try.prog 103 1 5 := field_at (sz := 1) Try.underlying103 rfl (by kernel_rfl) rfl
theorem fa103_3 : FieldAt Try.prog 103 3 8 := field_at (sz := 0) Try.underlying103 rfl (by kernel_rfl) rfl
theorem fa25_0 : FieldAt Try.prog 25 0 0 := field_at (sz := 0) Try.underlying25 rfl (by kernel_rfl) rfl
theorem fa25_1 : FieldAt Try.prog 25 1 1 := field_at (sz := 0) Try.underlying25 rfl (by kernel_rfl) rfl
theorem fa48_0 : FieldAt Try.prog 48 0 0 := field_at (sz := 0) Try.underlying48 rfl (by kernel_rfl) rfl
theorem fa48_1 : FieldAt Try.prog 48 1 1 := field_at (sz := 0) Try.underlying48 rfl (by kernel_rfl) rfl
theorem mixed : Try.prog.follows .mixedOrders = true := by kernel_rfl
theorem one22 : One Try.prog 22 := one_of Try.underlying22 rfl (by kernel_rfl)
theorem one23 : One Try.prog 23 := one_of Try.underlying23 rfl (by kernel_rfl)
theorem one3 : One Try.prog 3 := one_of Try.underlying3 rfl (by kernel_rfl)
theorem one38 : One Try.prog 38 := one_of Try.underlying38 rfl (by kernel_rfl)
theorem one39 : One Try.prog 39 := one_of Try.underlying39 rfl (by kernel_rfl)
theorem one4 : One Try.prog 4 := one_of Try.underlying4 rfl (by kernel_rfl)
theorem one97 : One Try.prog 97 := one_of Try.underlying97 rfl (by kernel_rfl)
theorem sz3 : ∀ W, (sizeOf 3).run Try.prog W = .ok 1 W := size_of (by kernel_rfl)
theorem sz38 : ∀ W, (sizeOf 38).run Try.prog W = .ok 1 W := size_of (by kernel_rfl)
theorem sz39 : ∀ W, (sizeOf 39).run Try.prog W = .ok 1 W := size_of (by kernel_rfl)
theorem sz4 : ∀ W, (sizeOf 4).run Try.prog W = .ok 1 W := size_of (by kernel_rfl)
theorem sz48 : ∀ W, (sizeOf 48).run Try.prog W = .ok 2 W := size_of (by kernel_rfl)
theorem zv48 : ∀ W, (zeroValue 48).run Try.prog W = .ok (.agg #[.int .i64 0, .int .i64 0]) W := zero_of (by kernel_rfl)

set_option maxHeartbeats 6400000 in
set_option maxRecDepth 100000 in
theorem from_calls {g : Pl} {a : PlA} {t : Tb} {A B Am : Option Addr} {ca cb cm b s : Nat} {M0 : List Bool} {ev : Value} {L : List Ch} {w w1 : World} (HH : Holds w (Blk b 103 [.slice a.k g.kinds.length a.ck, .slice a.p g.precs.length a.cp, .slice a.r g.rules.length a.cr, .slice a.q g.prods.length a.cq, .int .i64 g.start, .slice A t.mv.length ca, .slice B t.go.length cb, ev, .slice Am t.mv.length cm] :: Row fBool 4 (.slice Am t.mv.length cm) M0 :: L) w1) (hx : t.rd w A B) (hf : Fit2 g t) (hs : s < t.mv.length) (hl : M0.length = t.mv.length) (hk : t.ok) :
    Calls Try.prog 47 #[.pointer (some ⟨b, 0, none⟩), .int .i64 s] w1 fun e w' => ∃ v, e = .returned v ∧ ∃ M fr, v = .bool fr ∧ FromR g t s M0 M fr ∧ Holds w (Blk b 103 [.slice a.k g.kinds.length a.ck, .slice a.p g.precs.length a.cp, .slice a.r g.rules.length a.cr, .slice a.q g.prods.length a.cq, .int .i64 g.start, .slice A t.mv.length ca, .slice B t.go.length cb, ev, .slice Am t.mv.length cm] :: Row fBool 4 (.slice Am t.mv.length cm) M :: L) w' := by
  have hn1 := hf.1
  have hn2 := hf.2.1
  have hng := hf.2.2.1
  have hrow := hf.2.2.2
  obtain ⟨hrw1, hrw2, hrw3, hrw4⟩ := hrow s hs
  have hml := hk.ml (i := s) (by omega)
  have hgl := hk.gl (i := s) (by omega)
  have hAm : 0 < t.mv.length → Am = some (adr Am) := fun h_ => (HH.rrd (f := fBool) (e := 4) (A := Am) (xs := M0) (by repeat constructor)).ad (by omega)
  refine calls_of Try.func47 rfl Try.ntmps47 rfl ?_
  have H := HH
  refine wc_seq ?_
  refine wc_region ?_
  refine wl_v rfl rfl rfl (v_assign rfl) ?_
  refine wl_nil ?_
  refine wc_seq ?_
  refine wc_region ?_
  refine wl_v rfl rfl rfl (v_assign rfl) ?_
  refine wl_nil ?_
  refine wc_seq ?_
  refine wc_seq ?_
  refine wc_region ?_
  refine wl_v rfl rfl rfl (v_assign rfl) ?_
  refine wl_nil ?_
  refine wc_block ?_
  refine wc_loop (σ := Nat × List Bool × Bool) (fun s' => [(0, .pointer (some ⟨b, 0, none⟩)), (1, .int .i64 s), (5, .bool s'.2.2), (6, .int .i64 s'.1)]) (fun s' W => (s'.1 ≤ (t.mv.getD s []).length ∧ FrI g t s M0 s'.1 0 s'.2.1 s'.2.2) ∧ Holds w (Blk b 103 [.slice a.k g.kinds.length a.ck, .slice a.p g.precs.length a.cp, .slice a.r g.rules.length a.cr, .slice a.q g.prods.length a.cq, .int .i64 g.start, .slice A t.mv.length ca, .slice B t.go.length cb, ev, .slice Am t.mv.length cm] :: Row fBool 4 (.slice Am t.mv.length cm) s'.2.1 :: L) W) (fun s' => (t.mv.getD s []).length - s'.1) (0, M0, false) (sc rfl (sc rfl (sc rfl (sc rfl (sn _))))) ⟨⟨Nat.zero_le _, FrI.start M0⟩, H⟩ ?_
  rintro ⟨kj, M, fr⟩ W0 ⟨⟨hkj, hM⟩, H⟩
  dsimp only at hkj hM H ⊢
  have hMl := hM.len
  refine wc_seq ?_
  refine wc_seq ?_
  refine wc_region ?_
  refine wl_v rfl rfl rfl (v_move rfl) ?_
  refine wl_v rfl rfl rfl (v_move rfl) ?_
  refine wl_v rfl rfl rfl (v_nil rfl) ?_
  refine wl_v rfl rfl rfl (v_fb (o2 := 5) fa103_1 rfl rfl) ?_
  refine wl_v rfl rfl rfl (v_fb (o2 := 5) fa25_0 rfl rfl) ?_
  refine wl_v rfl rfl rfl (v_load one22 rfl (H.at (by repeat constructor) rfl)) ?_
  refine wl_v rfl rfl rfl (v_move rfl) ?_
  refine wl_v rfl rfl rfl (v_idx Try.underlying22 sz38 hx.m.ad rfl rfl (by omega) (by omega)) ?_
  obtain ⟨B17, cp17, hc17, hl17, hr17⟩ := hx.m.atSlN (i := s) (by omega)
  refine wl_v rfl rfl rfl (v_load one38 rfl (H.cell (hc17))) ?_
  refine wl_v rfl rfl rfl (v_len Try.underlying38 rfl) ?_
  refine wl_v rfl rfl rfl (v_lss rfl rfl) ?_
  refine wl_nil ?_
  refine wc_cond rfl (fun c0 => ?_) (fun c0 => ?_)
  ·have c0p := of_decide_eq_true c0
   refine wc_skip ?_
   refine wc_seq ?_
   refine wc_block ?_
   refine wc_seq ?_
   refine wc_region ?_
   refine wl_v rfl rfl rfl (v_move rfl) ?_
   refine wl_v rfl rfl rfl (v_nil rfl) ?_
   refine wl_v rfl rfl rfl (v_fb (o2 := 5) fa103_1 rfl rfl) ?_
   refine wl_v rfl rfl rfl (v_fb (o2 := 5) fa25_0 rfl rfl) ?_
   refine wl_v rfl rfl rfl (v_load one22 rfl (H.at (by repeat constructor) rfl)) ?_
   refine wl_v rfl rfl rfl (v_move rfl) ?_
   refine wl_v rfl rfl rfl (v_idx Try.underlying22 sz38 hx.m.ad rfl rfl (by omega) (by omega)) ?_
   obtain ⟨B29, cp29, hc29, hl29, hr29⟩ := hx.m.atSlN (i := s) (by omega)
   refine wl_v rfl rfl rfl (v_load one38 rfl (H.cell (hc29))) ?_
   refine wl_v rfl rfl rfl (v_move rfl) ?_
   refine wl_v rfl rfl rfl (v_idx Try.underlying38 sz48 hr29.ad rfl rfl (by omega) (by omega)) ?_
   refine wl_v rfl rfl rfl (v_loadN (cs := fMv.enc _) agg48 rfl rfl (fun k u hu => H.cell (hr29.atN (i := kj) (k := k) mv0 (by omega) hu))) ?_
   refine wl_alloc (cs := [.int .i64 0, .int .i64 0]) H rfl zv48 rfl ?_
   intro b7 w1 hb7 H2
   refine wl_store (vs := [_, _]) H2 (by repeat constructor) sz48 rfl rfl rfl rfl rfl (by (repeat constructor)) ?_
   intro w3 H4 hw3
   refine wl_nil ?_
   refine wc_seq ?_
   refine wc_still mixed (by kernel_rfl) ?_
   have Hd := H4.drew
   refine ws_v rfl rfl rfl (v_fb (o2 := 0) fa48_0 rfl rfl) ?_
   refine ws_v rfl rfl rfl (v_load one3 rfl (Hd.at (by repeat constructor) rfl)) ?_
   refine ws_v rfl rfl rfl (v_eql rfl rfl) ?_
   refine ws_v rfl rfl rfl (v_move rfl) ?_
   refine ws_guard rfl rfl rfl (fun g36 => ?_) (fun g36 => ?_)
   ·have g36p := of_decide_eq_true g36
    obtain ⟨q, hq0, hqn⟩ : ∃ q : Nat, ((t.mv.getD s []).getD kj mv0).n = (q : Int) ∧ q < t.mv.length := by
      have h_ := hrw3 kj (by omega)
      unfold mvOk at h_
      exact ⟨((t.mv.getD s []).getD kj mv0).n.toNat, by omega, by omega⟩
    have hqt : ((t.mv.getD s []).getD kj mv0).n.toNat = q := by omega
    refine ws_v rfl rfl rfl (v_move rfl) ?_
    refine ws_on' rfl rfl g36 ?_
    refine ws_v rfl rfl rfl (v_nil rfl) ?_
    refine ws_on' rfl rfl g36 ?_
    refine ws_v rfl rfl rfl (v_fb (o2 := 8) fa103_3 rfl rfl) ?_
    refine ws_on' rfl rfl g36 ?_
    refine ws_v rfl rfl rfl (v_load one97 rfl (Hd.at (by repeat constructor) rfl)) ?_
    refine ws_on' rfl rfl g36 ?_
    refine ws_v rfl rfl rfl (v_fb (o2 := 1) fa48_1 rfl rfl) ?_
    refine ws_on' rfl rfl g36 ?_
    refine ws_v rfl rfl rfl (v_load one3 rfl (Hd.at (by repeat constructor) rfl)) ?_
    refine ws_on' rfl rfl g36 ?_
    refine ws_v rfl rfl rfl (v_idx Try.underlying97 sz4 hAm rfl rfl (by omega) (by omega)) ?_
    refine ws_on' rfl rfl g36 ?_
    refine ws_v rfl rfl rfl (v_load one4 rfl ((Hd.rrd (f := fBool) (e := 4) (A := Am) (xs := M) (by repeat constructor)).at1b (by omega) (by omega))) ?_
    refine ws_on' rfl rfl g36 ?_
    refine ws_v rfl rfl rfl (v_not rfl) ?_
    refine ws_v rfl rfl rfl (v_pick_t rfl g36 rfl) ?_
    refine ws_nil ?_
    refine wc_cond rfl (fun c1 => ?_) (fun c1 => ?_)
    ·have c1p := of_n_t c1
     refine wc_seq ?_
     refine wc_tree [0, 1, 2, 3, 4, 5, 6] (fun W => Holds w [Blk b 103 [.slice a.k g.kinds.length a.ck, .slice a.p g.precs.length a.cp, .slice a.r g.rules.length a.cr, .slice a.q g.prods.length a.cq, .int .i64 g.start, .slice A t.mv.length ca, .slice B t.go.length cb, ev, .slice Am t.mv.length cm], Row fBool 4 (.slice Am t.mv.length cm) M, Blk b7 48 [.int .i64 ((t.mv.getD s []).getD kj mv0).d, .int .i64 ((t.mv.getD s []).getD kj mv0).n]] W) mixed ?_
     have Hd := Hd.drew
     have HSd : Holds w [Blk b 103 [.slice a.k g.kinds.length a.ck, .slice a.p g.precs.length a.cp, .slice a.r g.rules.length a.cr, .slice a.q g.prods.length a.cq, .int .i64 g.start, .slice A t.mv.length ca, .slice B t.go.length cb, ev, .slice Am t.mv.length cm], Row fBool 4 (.slice Am t.mv.length cm) M, Blk b7 48 [.int .i64 ((t.mv.getD s []).getD kj mv0).d, .int .i64 ((t.mv.getD s []).getD kj mv0).n]] _ := Hd.pm (by repeat constructor)
     refine wj_v (k := 0) rfl (by kernel_rfl) (fun _ _ _ h => h) HSd rfl rfl rfl (fun W HW => v_move rfl) ?_
     refine wj_v (k := 1) rfl (by kernel_rfl) (fun _ _ _ h => h) HSd rfl rfl rfl (fun W HW => v_nil rfl) ?_
     refine wj_v (k := 2) rfl (by kernel_rfl) (fun _ _ _ h => h) HSd rfl rfl rfl (fun W HW => v_fb (o2 := 8) fa103_3 rfl rfl) ?_
     refine wj_v (k := 3) rfl (by kernel_rfl) (fun _ _ _ h => h) HSd rfl rfl rfl (fun W HW => v_load one97 rfl (HW.at (by repeat constructor) rfl)) ?_
     refine wj_v (k := 4) rfl (by kernel_rfl) (fun _ _ _ h => h) HSd rfl rfl rfl (fun W HW => v_fb (o2 := 1) fa48_1 rfl rfl) ?_
     refine wj_v (k := 5) rfl (by kernel_rfl) (fun _ _ _ h => h) HSd rfl rfl rfl (fun W HW => v_load one3 rfl (HW.at (by repeat constructor) rfl)) ?_
     refine wj_v (k := 6) rfl (by kernel_rfl) (fun _ _ _ h => h) HSd rfl rfl rfl (fun W HW => v_idx Try.underlying97 sz4 hAm rfl rfl (by omega) (by omega)) ?_
     refine wj_t (k := 7) rfl (by kernel_rfl) ?_
     refine wl_storeR (f := fBool) (xs := M) (i := ((t.mv.getD s []).getD kj mv0).n) (x' := true) Hd (by repeat constructor) sz4 rfl rfl rfl (by omega) (by omega) ?_
     intro w5 H5
     rw [hqt] at H5
     refine wl_nil (tn ⟨fun hlt => absurd hlt (by rw [show allH _ _ _ = true by kernel_rfl]; simp), ?_⟩)
     refine wj_done (by kernel_rfl) ?_
     refine wc_region ?_
     refine wl_v rfl rfl rfl (v_assign rfl) ?_
     refine wl_nil ?_
     refine wc_region ?_
     refine wl_v rfl rfl rfl (v_move rfl) ?_
     refine wl_v rfl rfl rfl (v_addi rfl rfl (by omega)) ?_
     refine wl_v rfl rfl rfl (v_assign rfl) ?_
     refine wl_nil ?_
     first
       | exact ⟨(kj + 1, M.set q true, true), (sc rfl (sc rfl (sc rfl (sc rfl (sn _))))), ⟨⟨by dsimp only; omega, hM.set (x0 := (kj : Int)) (q0 := q) (fun x q' hh => by (rw [stm_add (by omega) g36p hq0] at hh; rcases hh with (hh | hh) | hh; exact .inl (.inl hh); exact .inr hh.2; exact .inl (.inr hh))) (by rw [← hqt]; exact of_n_t c1) (by omega) (.inl ⟨kj, by omega, rfl, g36p, hq0⟩)⟩, H5.pmt (T := L) (by repeat constructor)⟩, by dsimp only; omega⟩
       | exact ⟨(kj + 1, M, fr), (sc rfl (sc rfl (sc rfl (sc rfl (sn _))))), ⟨⟨by dsimp only; omega, hM.had (q0 := q) (fun x q' hh => by (rw [stm_add (by omega) g36p hq0] at hh; rcases hh with (hh | hh) | hh; exact .inl (.inl hh); exact .inr hh.2; exact .inl (.inr hh))) (by rw [← hqt]; exact of_n_f c1)⟩, H5.pmt (T := L) (by repeat constructor)⟩, by dsimp only; omega⟩
       | exact ⟨(kj + 1, M, fr), (sc rfl (sc rfl (sc rfl (sc rfl (sn _))))), ⟨⟨by dsimp only; omega, hM.cong fun x q' hh => by (rw [stm_skip (by omega) g36p] at hh; exact hh)⟩, H5.pmt (T := L) (by repeat constructor)⟩, by dsimp only; omega⟩
    ·have c1p := of_n_f c1
     refine wc_skip ?_
     refine wc_region ?_
     refine wl_v rfl rfl rfl (v_move rfl) ?_
     refine wl_v rfl rfl rfl (v_addi rfl rfl (by omega)) ?_
     refine wl_v rfl rfl rfl (v_assign rfl) ?_
     refine wl_nil ?_
     first
       | exact ⟨(kj + 1, M.set q true, true), (sc rfl (sc rfl (sc rfl (sc rfl (sn _))))), ⟨⟨by dsimp only; omega, hM.set (x0 := (kj : Int)) (q0 := q) (fun x q' hh => by (rw [stm_add (by omega) g36p hq0] at hh; rcases hh with (hh | hh) | hh; exact .inl (.inl hh); exact .inr hh.2; exact .inl (.inr hh))) (by rw [← hqt]; exact of_n_t c1) (by omega) (.inl ⟨kj, by omega, rfl, g36p, hq0⟩)⟩, Hd.pmt (T := L) (by repeat constructor)⟩, by dsimp only; omega⟩
       | exact ⟨(kj + 1, M, fr), (sc rfl (sc rfl (sc rfl (sc rfl (sn _))))), ⟨⟨by dsimp only; omega, hM.had (q0 := q) (fun x q' hh => by (rw [stm_add (by omega) g36p hq0] at hh; rcases hh with (hh | hh) | hh; exact .inl (.inl hh); exact .inr hh.2; exact .inl (.inr hh))) (by rw [← hqt]; exact of_n_f c1)⟩, Hd.pmt (T := L) (by repeat constructor)⟩, by dsimp only; omega⟩
       | exact ⟨(kj + 1, M, fr), (sc rfl (sc rfl (sc rfl (sc rfl (sn _))))), ⟨⟨by dsimp only; omega, hM.cong fun x q' hh => by (rw [stm_skip (by omega) g36p] at hh; exact hh)⟩, Hd.pmt (T := L) (by repeat constructor)⟩, by dsimp only; omega⟩
   ·have g36p := of_decide_eq_false g36
    refine ws_off rfl rfl g36 rfl ?_
    refine ws_off rfl rfl g36 rfl ?_
    refine ws_off rfl rfl g36 rfl ?_
    refine ws_off rfl rfl g36 rfl ?_
    refine ws_off rfl rfl g36 rfl ?_
    refine ws_off rfl rfl g36 rfl ?_
    refine ws_off rfl rfl g36 rfl ?_
    refine ws_off rfl rfl g36 rfl ?_
    refine ws_v rfl rfl rfl (v_pick_f rfl g36 rfl) ?_
    refine ws_nil ?_
    refine wc_cond_f rfl ?_
    refine wc_skip ?_
    refine wc_region ?_
    refine wl_v rfl rfl rfl (v_move rfl) ?_
    refine wl_v rfl rfl rfl (v_addi rfl rfl (by omega)) ?_
    refine wl_v rfl rfl rfl (v_assign rfl) ?_
    refine wl_nil ?_
    first
      | exact ⟨(kj + 1, M.set q true, true), (sc rfl (sc rfl (sc rfl (sc rfl (sn _))))), ⟨⟨by dsimp only; omega, hM.set (x0 := (kj : Int)) (q0 := q) (fun x q' hh => by (rw [stm_add (by omega) g36p hq0] at hh; rcases hh with (hh | hh) | hh; exact .inl (.inl hh); exact .inr hh.2; exact .inl (.inr hh))) (by rw [← hqt]; exact of_n_t c1) (by omega) (.inl ⟨kj, by omega, rfl, g36p, hq0⟩)⟩, Hd.pmt (T := L) (by repeat constructor)⟩, by dsimp only; omega⟩
      | exact ⟨(kj + 1, M, fr), (sc rfl (sc rfl (sc rfl (sc rfl (sn _))))), ⟨⟨by dsimp only; omega, hM.had (q0 := q) (fun x q' hh => by (rw [stm_add (by omega) g36p hq0] at hh; rcases hh with (hh | hh) | hh; exact .inl (.inl hh); exact .inr hh.2; exact .inl (.inr hh))) (by rw [← hqt]; exact of_n_f c1)⟩, Hd.pmt (T := L) (by repeat constructor)⟩, by dsimp only; omega⟩
      | exact ⟨(kj + 1, M, fr), (sc rfl (sc rfl (sc rfl (sc rfl (sn _))))), ⟨⟨by dsimp only; omega, hM.cong fun x q' hh => by (rw [stm_skip (by omega) g36p] at hh; exact hh)⟩, Hd.pmt (T := L) (by repeat constructor)⟩, by dsimp only; omega⟩
  ·have c0p := of_decide_eq_false c0
   refine wc_exit ?_
   refine wc_seq ?_
   refine wc_seq ?_
   refine wc_region ?_
   refine wl_v rfl rfl rfl (v_assign rfl) ?_
   refine wl_nil ?_
   refine wc_block ?_
   refine wc_loop (σ := Nat × List Bool × Bool) (fun s' => [(0, .pointer (some ⟨b, 0, none⟩)), (1, .int .i64 s), (5, .bool s'.2.2), (8, .int .i64 s'.1)]) (fun s' W => (s'.1 ≤ (t.go.getD s []).length ∧ FrI g t s M0 (t.mv.getD s []).length s'.1 s'.2.1 s'.2.2) ∧ Holds w (Blk b 103 [.slice a.k g.kinds.length a.ck, .slice a.p g.precs.length a.cp, .slice a.r g.rules.length a.cr, .slice a.q g.prods.length a.cq, .int .i64 g.start, .slice A t.mv.length ca, .slice B t.go.length cb, ev, .slice Am t.mv.length cm] :: Row fBool 4 (.slice Am t.mv.length cm) s'.2.1 :: L) W) (fun s' => (t.go.getD s []).length - s'.1) (0, M, fr) (sc rfl (sc rfl (sc rfl (sc rfl (sn _))))) ⟨⟨Nat.zero_le _, hM.cong fun x q hh => .imp (fun ⟨j, h1, h2⟩ => ⟨j, by omega, h2⟩) id hh⟩, H⟩ ?_
   rintro ⟨kj, M, fr⟩ W1 ⟨⟨hkj, hM⟩, H⟩
   dsimp only at hkj hM H ⊢
   have hMl := hM.len
   refine wc_seq ?_
   refine wc_seq ?_
   refine wc_region ?_
   refine wl_v rfl rfl rfl (v_move rfl) ?_
   refine wl_v rfl rfl rfl (v_move rfl) ?_
   refine wl_v rfl rfl rfl (v_nil rfl) ?_
   refine wl_v rfl rfl rfl (v_fb (o2 := 5) fa103_1 rfl rfl) ?_
   refine wl_v rfl rfl rfl (v_fb (o2 := 6) fa25_1 rfl rfl) ?_
   refine wl_v rfl rfl rfl (v_load one23 rfl (H.at (by repeat constructor) rfl)) ?_
   refine wl_v rfl rfl rfl (v_move rfl) ?_
   refine wl_v rfl rfl rfl (v_idx Try.underlying23 sz39 hx.g.ad rfl rfl (by omega) (by omega)) ?_
   obtain ⟨B62, cp62, hc62, hl62, hr62⟩ := hx.g.atSlN (i := s) (by omega)
   refine wl_v rfl rfl rfl (v_load one39 rfl (H.cell (hc62))) ?_
   refine wl_v rfl rfl rfl (v_len Try.underlying39 rfl) ?_
   refine wl_v rfl rfl rfl (v_lss rfl rfl) ?_
   refine wl_nil ?_
   refine wc_cond rfl (fun c2 => ?_) (fun c2 => ?_)
   ·have c2p := of_decide_eq_true c2
    refine wc_skip ?_
    refine wc_seq ?_
    refine wc_block ?_
    refine wc_seq ?_
    refine wc_still mixed (by kernel_rfl) ?_
    have Hd := H.drew
    refine ws_v rfl rfl rfl (v_move rfl) ?_
    refine ws_v rfl rfl rfl (v_nil rfl) ?_
    refine ws_v rfl rfl rfl (v_fb (o2 := 5) fa103_1 rfl rfl) ?_
    refine ws_v rfl rfl rfl (v_fb (o2 := 6) fa25_1 rfl rfl) ?_
    refine ws_v rfl rfl rfl (v_load one23 rfl (Hd.at (by repeat constructor) rfl)) ?_
    refine ws_v rfl rfl rfl (v_move rfl) ?_
    refine ws_v rfl rfl rfl (v_idx Try.underlying23 sz39 hx.g.ad rfl rfl (by omega) (by omega)) ?_
    obtain ⟨B74, cp74, hc74, hl74, hr74⟩ := hx.g.atSlN (i := s) (by omega)
    refine ws_v rfl rfl rfl (v_load one39 rfl (Hd.cell (hc74))) ?_
    refine ws_v rfl rfl rfl (v_move rfl) ?_
    refine ws_v rfl rfl rfl (v_idx Try.underlying39 sz3 hr74.ad rfl rfl (by omega) (by omega)) ?_
    refine ws_v rfl rfl rfl (v_load one3 rfl (Hd.cell (hr74.at1N (i := kj) (by omega)))) ?_
    refine ws_v rfl rfl rfl (v_geq rfl rfl) ?_
    refine ws_v rfl rfl rfl (v_move rfl) ?_
    refine ws_guard rfl rfl rfl (fun g79 => ?_) (fun g79 => ?_)
    ·have g79p := of_decide_eq_true g79
     obtain ⟨q, hq0, hqn⟩ : ∃ q : Nat, ((t.go.getD s []).getD kj 0) = (q : Int) ∧ q < t.mv.length := by
       have h_ := hrw4 kj (by omega)
       unfold goOk at h_
       exact ⟨((t.go.getD s []).getD kj 0).toNat, by omega, by omega⟩
     have hqt : ((t.go.getD s []).getD kj 0).toNat = q := by omega
     refine ws_v rfl rfl rfl (v_move rfl) ?_
     refine ws_on' rfl rfl g79 ?_
     refine ws_v rfl rfl rfl (v_nil rfl) ?_
     refine ws_on' rfl rfl g79 ?_
     refine ws_v rfl rfl rfl (v_fb (o2 := 8) fa103_3 rfl rfl) ?_
     refine ws_on' rfl rfl g79 ?_
     refine ws_v rfl rfl rfl (v_load one97 rfl (Hd.at (by repeat constructor) rfl)) ?_
     refine ws_on' rfl rfl g79 ?_
     refine ws_v rfl rfl rfl (v_move rfl) ?_
     refine ws_on' rfl rfl g79 ?_
     refine ws_v rfl rfl rfl (v_nil rfl) ?_
     refine ws_on' rfl rfl g79 ?_
     refine ws_v rfl rfl rfl (v_fb (o2 := 5) fa103_1 rfl rfl) ?_
     refine ws_on' rfl rfl g79 ?_
     refine ws_v rfl rfl rfl (v_fb (o2 := 6) fa25_1 rfl rfl) ?_
     refine ws_on' rfl rfl g79 ?_
     refine ws_v rfl rfl rfl (v_load one23 rfl (Hd.at (by repeat constructor) rfl)) ?_
     refine ws_on' rfl rfl g79 ?_
     refine ws_v rfl rfl rfl (v_move rfl) ?_
     refine ws_on' rfl rfl g79 ?_
     refine ws_v rfl rfl rfl (v_idx Try.underlying23 sz39 hx.g.ad rfl rfl (by omega) (by omega)) ?_
     refine ws_on' rfl rfl g79 ?_
     obtain ⟨B91, cp91, hc91, hl91, hr91⟩ := hx.g.atSlN (i := s) (by omega)
     refine ws_v rfl rfl rfl (v_load one39 rfl (Hd.cell (hc91))) ?_
     refine ws_on' rfl rfl g79 ?_
     refine ws_v rfl rfl rfl (v_move rfl) ?_
     refine ws_on' rfl rfl g79 ?_
     refine ws_v rfl rfl rfl (v_idx Try.underlying39 sz3 hr91.ad rfl rfl (by omega) (by omega)) ?_
     refine ws_on' rfl rfl g79 ?_
     refine ws_v rfl rfl rfl (v_load one3 rfl (Hd.cell (hr91.at1N (i := kj) (by omega)))) ?_
     refine ws_on' rfl rfl g79 ?_
     refine ws_v rfl rfl rfl (v_idx Try.underlying97 sz4 hAm rfl rfl (by omega) (by omega)) ?_
     refine ws_on' rfl rfl g79 ?_
     refine ws_v rfl rfl rfl (v_load one4 rfl ((Hd.rrd (f := fBool) (e := 4) (A := Am) (xs := M) (by repeat constructor)).at1b (by omega) (by omega))) ?_
     refine ws_on' rfl rfl g79 ?_
     refine ws_v rfl rfl rfl (v_not rfl) ?_
     refine ws_v rfl rfl rfl (v_pick_t rfl g79 rfl) ?_
     refine ws_nil ?_
     refine wc_cond rfl (fun c3 => ?_) (fun c3 => ?_)
     ·have c3p := of_n_t c3
      refine wc_seq ?_
      refine wc_tree [0, 1, 2, 3, 4, 5, 6, 7, 8, 9, 10, 11, 12, 13, 14, 15] (fun W => Holds w [Blk b 103 [.slice a.k g.kinds.length a.ck, .slice a.p g.precs.length a.cp, .slice a.r g.rules.length a.cr, .slice a.q g.prods.length a.cq, .int .i64 g.start, .slice A t.mv.length ca, .slice B t.go.length cb, ev, .slice Am t.mv.length cm], Row fBool 4 (.slice Am t.mv.length cm) M] W) mixed ?_
      have Hd := Hd.drew
      have HSd : Holds w [Blk b 103 [.slice a.k g.kinds.length a.ck, .slice a.p g.precs.length a.cp, .slice a.r g.rules.length a.cr, .slice a.q g.prods.length a.cq, .int .i64 g.start, .slice A t.mv.length ca, .slice B t.go.length cb, ev, .slice Am t.mv.length cm], Row fBool 4 (.slice Am t.mv.length cm) M] _ := Hd.pm (by repeat constructor)
      refine wj_v (k := 0) rfl (by kernel_rfl) (fun _ _ _ h => h) HSd rfl rfl rfl (fun W HW => v_move rfl) ?_
      refine wj_v (k := 1) rfl (by kernel_rfl) (fun _ _ _ h => h) HSd rfl rfl rfl (fun W HW => v_nil rfl) ?_
      refine wj_v (k := 2) rfl (by kernel_rfl) (fun _ _ _ h => h) HSd rfl rfl rfl (fun W HW => v_fb (o2 := 8) fa103_3 rfl rfl) ?_
      refine wj_v (k := 3) rfl (by kernel_rfl) (fun _ _ _ h => h) HSd rfl rfl rfl (fun W HW => v_load one97 rfl (HW.at (by repeat constructor) rfl)) ?_
      refine wj_v (k := 4) rfl (by kernel_rfl) (fun _ _ _ h => h) HSd rfl rfl rfl (fun W HW => v_move rfl) ?_
      refine wj_v (k := 5) rfl (by kernel_rfl) (fun _ _ _ h => h) HSd rfl rfl rfl (fun W HW => v_nil rfl) ?_
      refine wj_v (k := 6) rfl (by kernel_rfl) (fun _ _ _ h => h) HSd rfl rfl rfl (fun W HW => v_fb (o2 := 5) fa103_1 rfl rfl) ?_
      refine wj_v (k := 7) rfl (by kernel_rfl) (fun _ _ _ h => h) HSd rfl rfl rfl (fun W HW => v_fb (o2 := 6) fa25_1 rfl rfl) ?_
      refine wj_v (k := 8) rfl (by kernel_rfl) (fun _ _ _ h => h) HSd rfl rfl rfl (fun W HW => v_load one23 rfl (HW.at (by repeat constructor) rfl)) ?_
      refine wj_v (k := 9) rfl (by kernel_rfl) (fun _ _ _ h => h) HSd rfl rfl rfl (fun W HW => v_move rfl) ?_
      refine wj_v (k := 10) rfl (by kernel_rfl) (fun _ _ _ h => h) HSd rfl rfl rfl (fun W HW => v_idx Try.underlying23 sz39 hx.g.ad rfl rfl (by omega) (by omega)) ?_
      obtain ⟨B110, cp110, hc110, hl110, hr110⟩ := hx.g.atSlN (i := s) (by omega)
      refine wj_v (k := 11) rfl (by kernel_rfl) (fun _ _ _ h => h) HSd rfl rfl rfl (fun W HW => v_load one39 rfl (HW.cell (hc110))) ?_
      refine wj_v (k := 12) rfl (by kernel_rfl) (fun _ _ _ h => h) HSd rfl rfl rfl (fun W HW => v_move rfl) ?_
      refine wj_v (k := 13) rfl (by kernel_rfl) (fun _ _ _ h => h) HSd rfl rfl rfl (fun W HW => v_idx Try.underlying39 sz3 hr110.ad rfl rfl (by omega) (by omega)) ?_
      refine wj_v (k := 14) rfl (by kernel_rfl) (fun _ _ _ h => h) HSd rfl rfl rfl (fun W HW => v_load one3 rfl (HW.cell (hr110.at1N (i := kj) (by omega)))) ?_
      refine wj_v (k := 15) rfl (by kernel_rfl) (fun _ _ _ h => h) HSd rfl rfl rfl (fun W HW => v_idx Try.underlying97 sz4 hAm rfl rfl (by omega) (by omega)) ?_
      refine wj_t (k := 16) rfl (by kernel_rfl) ?_
      refine wl_storeR (f := fBool) (xs := M) (i := ((t.go.getD s []).getD kj 0)) (x' := true) Hd (by repeat constructor) sz4 rfl rfl rfl (by omega) (by omega) ?_
      intro w7 H7
      rw [hqt] at H7
      refine wl_nil (tn ⟨fun hlt => absurd hlt (by rw [show allH _ _ _ = true by kernel_rfl]; simp), ?_⟩)
      refine wj_done (by kernel_rfl) ?_
      refine wc_region ?_
      refine wl_v rfl rfl rfl (v_assign rfl) ?_
      refine wl_nil ?_
      refine wc_region ?_
      refine wl_v rfl rfl rfl (v_move rfl) ?_
      refine wl_v rfl rfl rfl (v_addi rfl rfl (by omega)) ?_
      refine wl_v rfl rfl rfl (v_assign rfl) ?_
      refine wl_nil ?_
      first
        | exact ⟨(kj + 1, M.set q true, true), (sc rfl (sc rfl (sc rfl (sc rfl (sn _))))), ⟨⟨by dsimp only; omega, hM.set (x0 := ((g.kinds.length : Int) + kj)) (q0 := q) (fun x q' hh => by (rw [stg_add (by omega) hq0] at hh; rcases hh with hh | hh | hh; exact .inl (.inl hh); exact .inl (.inr hh); exact .inr hh.2)) (by rw [← hqt]; exact of_n_t c3) (by omega) (.inr ⟨kj, by omega, rfl, hq0⟩)⟩, H7.pmt (T := L) (by repeat constructor)⟩, by dsimp only; omega⟩
        | exact ⟨(kj + 1, M, fr), (sc rfl (sc rfl (sc rfl (sc rfl (sn _))))), ⟨⟨by dsimp only; omega, hM.had (q0 := q) (fun x q' hh => by (rw [stg_add (by omega) hq0] at hh; rcases hh with hh | hh | hh; exact .inl (.inl hh); exact .inl (.inr hh); exact .inr hh.2)) (by rw [← hqt]; exact of_n_f c3)⟩, H7.pmt (T := L) (by repeat constructor)⟩, by dsimp only; omega⟩
        | exact ⟨(kj + 1, M, fr), (sc rfl (sc rfl (sc rfl (sc rfl (sn _))))), ⟨⟨by dsimp only; omega, hM.cong fun x q' hh => by (rw [stg_skip (by omega) (by omega)] at hh; exact hh)⟩, H7.pmt (T := L) (by repeat constructor)⟩, by dsimp only; omega⟩
     ·have c3p := of_n_f c3
      refine wc_skip ?_
      refine wc_region ?_
      refine wl_v rfl rfl rfl (v_move rfl) ?_
      refine wl_v rfl rfl rfl (v_addi rfl rfl (by omega)) ?_
      refine wl_v rfl rfl rfl (v_assign rfl) ?_
      refine wl_nil ?_
      first
        | exact ⟨(kj + 1, M.set q true, true), (sc rfl (sc rfl (sc rfl (sc rfl (sn _))))), ⟨⟨by dsimp only; omega, hM.set (x0 := ((g.kinds.length : Int) + kj)) (q0 := q) (fun x q' hh => by (rw [stg_add (by omega) hq0] at hh; rcases hh with hh | hh | hh; exact .inl (.inl hh); exact .inl (.inr hh); exact .inr hh.2)) (by rw [← hqt]; exact of_n_t c3) (by omega) (.inr ⟨kj, by omega, rfl, hq0⟩)⟩, Hd.pmt (T := L) (by repeat constructor)⟩, by dsimp only; omega⟩
        | exact ⟨(kj + 1, M, fr), (sc rfl (sc rfl (sc rfl (sc rfl (sn _))))), ⟨⟨by dsimp only; omega, hM.had (q0 := q) (fun x q' hh => by (rw [stg_add (by omega) hq0] at hh; rcases hh with hh | hh | hh; exact .inl (.inl hh); exact .inl (.inr hh); exact .inr hh.2)) (by rw [← hqt]; exact of_n_f c3)⟩, Hd.pmt (T := L) (by repeat constructor)⟩, by dsimp only; omega⟩
        | exact ⟨(kj + 1, M, fr), (sc rfl (sc rfl (sc rfl (sc rfl (sn _))))), ⟨⟨by dsimp only; omega, hM.cong fun x q' hh => by (rw [stg_skip (by omega) (by omega)] at hh; exact hh)⟩, Hd.pmt (T := L) (by repeat constructor)⟩, by dsimp only; omega⟩
    ·have g79p := of_decide_eq_false g79
     refine ws_off rfl rfl g79 rfl ?_
     refine ws_off rfl rfl g79 rfl ?_
     refine ws_off rfl rfl g79 rfl ?_
     refine ws_off rfl rfl g79 rfl ?_
     refine ws_off rfl rfl g79 rfl ?_
     refine ws_off rfl rfl g79 rfl ?_
     refine ws_off rfl rfl g79 rfl ?_
     refine ws_off rfl rfl g79 rfl ?_
     refine ws_off rfl rfl g79 rfl ?_
     refine ws_off rfl rfl g79 rfl ?_
     refine ws_off rfl rfl g79 rfl ?_
     refine ws_off rfl rfl g79 rfl ?_
     refine ws_off rfl rfl g79 rfl ?_
     refine ws_off rfl rfl g79 rfl ?_
     refine ws_off rfl rfl g79 rfl ?_
     refine ws_off rfl rfl g79 rfl ?_
     refine ws_off rfl rfl g79 rfl ?_
     refine ws_v rfl rfl rfl (v_pick_f rfl g79 rfl) ?_
     refine ws_nil ?_
     refine wc_cond_f rfl ?_
     refine wc_skip ?_
     refine wc_region ?_
     refine wl_v rfl rfl rfl (v_move rfl) ?_
     refine wl_v rfl rfl rfl (v_addi rfl rfl (by omega)) ?_
     refine wl_v rfl rfl rfl (v_assign rfl) ?_
     refine wl_nil ?_
     first
       | exact ⟨(kj + 1, M.set q true, true), (sc rfl (sc rfl (sc rfl (sc rfl (sn _))))), ⟨⟨by dsimp only; omega, hM.set (x0 := ((g.kinds.length : Int) + kj)) (q0 := q) (fun x q' hh => by (rw [stg_add (by omega) hq0] at hh; rcases hh with hh | hh | hh; exact .inl (.inl hh); exact .inl (.inr hh); exact .inr hh.2)) (by rw [← hqt]; exact of_n_t c3) (by omega) (.inr ⟨kj, by omega, rfl, hq0⟩)⟩, Hd.pmt (T := L) (by repeat constructor)⟩, by dsimp only; omega⟩
       | exact ⟨(kj + 1, M, fr), (sc rfl (sc rfl (sc rfl (sc rfl (sn _))))), ⟨⟨by dsimp only; omega, hM.had (q0 := q) (fun x q' hh => by (rw [stg_add (by omega) hq0] at hh; rcases hh with hh | hh | hh; exact .inl (.inl hh); exact .inl (.inr hh); exact .inr hh.2)) (by rw [← hqt]; exact of_n_f c3)⟩, Hd.pmt (T := L) (by repeat constructor)⟩, by dsimp only; omega⟩
       | exact ⟨(kj + 1, M, fr), (sc rfl (sc rfl (sc rfl (sc rfl (sn _))))), ⟨⟨by dsimp only; omega, hM.cong fun x q' hh => by (rw [stg_skip (by omega) (by omega)] at hh; exact hh)⟩, Hd.pmt (T := L) (by repeat constructor)⟩, by dsimp only; omega⟩
   ·have c2p := of_decide_eq_false c2
    refine wc_exit ?_
    refine wc_seq ?_
    refine wc_region ?_
    refine wl_v rfl rfl rfl (v_move rfl) ?_
    refine wl_v rfl rfl rfl (v_assign rfl) ?_
    refine wl_nil ?_
    refine wc_ret ?_
    exact ⟨_, res1 rfl rfl, M, fr, rfl, hM.fin (by omega) (by omega), H⟩
end Go.Proofs.Ytkpehkadammppaa.FromW

/-! An edge of a shift. -/
namespace Go.Proofs.Ytkpehkadammppaa.KnownW
open Go Go.RowKit Go.Proofs.YtkpehkadammppaaFx 
theorem ba106 : BuildAt Try.prog 106 [.int .i64 0, .int .i64 0, .int .i64 0] [(0, 1), (1, 1), (2, 1)] := build_at Try.underlying106 (by kernel_rfl) (by kernel_rfl)
theorem fa103_2 : FieldAt Try.prog 103 2 7 := field_at (sz := 0) Try.underlying103 rfl (by kernel_rfl) rfl
theorem fa48_0 : FieldAt Try.prog 48 0 0 := field_at (sz := 0) Try.underlying48 rfl (by kernel_rfl) rfl
theorem fa48_1 : FieldAt Try.prog 48 1 1 := field_at (sz := 0) Try.underlying48 rfl (by kernel_rfl) rfl
theorem info106 : (Try.prog.info? 106).map (fun i => (i.zero, i.size, i.bytes)) = some (some (.agg #[.int .i64 0, .int .i64 0, .int .i64 0]), 3, 24) := by kernel_rfl
theorem mixed : Try.prog.follows .mixedOrders = true := by kernel_rfl
theorem one101 : One Try.prog 101 := one_of Try.underlying101 rfl (by kernel_rfl)
theorem one3 : One Try.prog 3 := one_of Try.underlying3 rfl (by kernel_rfl)
theorem sz101 : ∀ W, (sizeOf 101).run Try.prog W = .ok 1 W := size_of (by kernel_rfl)
theorem sz106 : ∀ W, (sizeOf 106).run Try.prog W = .ok 3 W := size_of (by kernel_rfl)
theorem zv106 : ∀ W, (zeroValue 106).run Try.prog W = .ok (.agg #[.int .i64 0, .int .i64 0, .int .i64 0]) W := zero_of (by kernel_rfl)

set_option maxHeartbeats 1600000 in
set_option maxRecDepth 100000 in
theorem known_calls {g : Pl} {a : PlA} {t : Tb} {A B : Option Addr} {ca cb b : Nat} {s x : Int} {m : Mv} {E : List Ed} {ev mvv : Value} {L : List Ch} {w w1 : World} (HH : Holds w (Blk b 103 [.slice a.k g.kinds.length a.ck, .slice a.p g.precs.length a.cp, .slice a.r g.rules.length a.cr, .slice a.q g.prods.length a.cq, .int .i64 g.start, .slice A t.mv.length ca, .slice B t.go.length cb, ev, mvv] :: Row fEd 106 ev E :: L) w1) (hl : E.length ≤ 1099511627776) :
    Calls Try.prog 48 #[.pointer (some ⟨b, 0, none⟩), .int .i64 s, .int .i64 x, .agg #[.int .i64 m.d, .int .i64 m.n]] w1 fun e w' => ∃ v, e = .returned v ∧ ∃ ev2 E2, v = .tuple #[] ∧ ((m.d = 1 ∧ E2 = E ++ [⟨s, x, m.n⟩]) ∨ (m.d ≠ 1 ∧ E2 = E)) ∧ Holds w (Blk b 103 [.slice a.k g.kinds.length a.ck, .slice a.p g.precs.length a.cp, .slice a.r g.rules.length a.cr, .slice a.q g.prods.length a.cq, .int .i64 g.start, .slice A t.mv.length ca, .slice B t.go.length cb, ev2, mvv] :: Row fEd 106 ev2 E2 :: L) w' := by
  refine calls_of Try.func48 rfl Try.ntmps48 rfl ?_
  have H := HH
  refine wc_seq ?_
  refine wc_region ?_
  refine wl_box (cs := [_, _]) H rfl rfl rfl ?_
  intro b7 w1 hb7 H2
  refine wl_nil ?_
  refine wc_seq ?_
  refine wc_region ?_
  refine wl_v rfl rfl rfl (v_fb (o2 := 0) fa48_0 rfl rfl) ?_
  refine wl_v rfl rfl rfl (v_load one3 rfl (H2.at (by repeat constructor) rfl)) ?_
  refine wl_v rfl rfl rfl (v_eql rfl rfl) ?_
  refine wl_nil ?_
  refine wc_cond rfl (fun c0 => ?_) (fun c0 => ?_)
  ·have c0p := of_decide_eq_true c0
   refine wc_tree [0, 1, 2, 3, 4, 5, 6, 7, 8, 9, 12, 13] (fun W => Holds w [Blk b 103 [.slice a.k g.kinds.length a.ck, .slice a.p g.precs.length a.cp, .slice a.r g.rules.length a.cr, .slice a.q g.prods.length a.cq, .int .i64 g.start, .slice A t.mv.length ca, .slice B t.go.length cb, ev, mvv], Blk b7 48 [.int .i64 m.d, .int .i64 m.n]] W) mixed ?_
   have Hd := H2.drew
   have HSd : Holds w [Blk b 103 [.slice a.k g.kinds.length a.ck, .slice a.p g.precs.length a.cp, .slice a.r g.rules.length a.cr, .slice a.q g.prods.length a.cq, .int .i64 g.start, .slice A t.mv.length ca, .slice B t.go.length cb, ev, mvv], Blk b7 48 [.int .i64 m.d, .int .i64 m.n]] _ := Hd.pm (by repeat constructor)
   refine wj_v (k := 0) rfl (by kernel_rfl) (fun _ _ _ h => h) HSd rfl rfl rfl (fun W HW => v_move rfl) ?_
   refine wj_v (k := 1) rfl (by kernel_rfl) (fun _ _ _ h => h) HSd rfl rfl rfl (fun W HW => v_move rfl) ?_
   refine wj_v (k := 2) rfl (by kernel_rfl) (fun _ _ _ h => h) HSd rfl rfl rfl (fun W HW => v_nil rfl) ?_
   refine wj_v (k := 3) rfl (by kernel_rfl) (fun _ _ _ h => h) HSd rfl rfl rfl (fun W HW => v_fb (o2 := 7) fa103_2 rfl rfl) ?_
   refine wj_v (k := 4) rfl (by kernel_rfl) (fun _ _ _ h => h) HSd rfl rfl rfl (fun W HW => v_load one101 rfl (HW.at (by repeat constructor) rfl)) ?_
   refine wj_v (k := 5) rfl (by kernel_rfl) (fun _ _ _ h => h) HSd rfl rfl rfl (fun W HW => v_move rfl) ?_
   refine wj_v (k := 6) rfl (by kernel_rfl) (fun _ _ _ h => h) HSd rfl rfl rfl (fun W HW => v_move rfl) ?_
   refine wj_v (k := 7) rfl (by kernel_rfl) (fun _ _ _ h => h) HSd rfl rfl rfl (fun W HW => v_fb (o2 := 1) fa48_1 rfl rfl) ?_
   refine wj_v (k := 8) rfl (by kernel_rfl) (fun _ _ _ h => h) HSd rfl rfl rfl (fun W HW => v_load one3 rfl (HW.at (by repeat constructor) rfl)) ?_
   refine wj_v (k := 9) rfl (by kernel_rfl) (fun _ _ _ h => h) HSd rfl rfl rfl (fun W HW => v_bld ba106 rfl (by repeat constructor)) ?_
   refine wj_t (k := 10) rfl (by kernel_rfl) ?_
   refine wl_slit (v := .agg #[.int .i64 0, .int .i64 0, .int .i64 0]) (z := [.int .i64 0, .int .i64 0, .int .i64 0]) (cs := [.int .i64 s, .int .i64 x, .int .i64 m.n]) (sz := 3) Hd rfl Try.underlying101 sz106 zv106 (by decide) (by decide) (by kernel_rfl) rfl (by repeat constructor) ?_
   intro b21 w3 hb21 H3 hs3
   have HS4 : Holds w [Blk b 103 [.slice a.k g.kinds.length a.ck, .slice a.p g.precs.length a.cp, .slice a.r g.rules.length a.cr, .slice a.q g.prods.length a.cq, .int .i64 g.start, .slice A t.mv.length ca, .slice B t.go.length cb, ev, mvv], Blk b7 48 [.int .i64 m.d, .int .i64 m.n]] _ := H3.pm (by repeat constructor)
   refine wl_nil (tn ⟨fun _ => HS4, ?_⟩)
   refine wj_t (k := 11) rfl (by kernel_rfl) ?_
   refine wl_app1 (f := fEd) (xs := E) (y' := (⟨s, x, m.n⟩ : Ed)) H3 (fun v' => (by repeat constructor)) (by repeat constructor) rfl Try.underlying101 info106 rfl (by decide) rfl rfl rfl (by omega) (by decide) ?_
   intro A22 z22 w5 H5 hs5
   have HS6 : Holds w [Blk b 103 [.slice a.k g.kinds.length a.ck, .slice a.p g.precs.length a.cp, .slice a.r g.rules.length a.cr, .slice a.q g.prods.length a.cq, .int .i64 g.start, .slice A t.mv.length ca, .slice B t.go.length cb, ev, mvv], Blk b7 48 [.int .i64 m.d, .int .i64 m.n]] _ := H5.pm (by repeat constructor)
   refine wl_nil (tn ⟨fun _ => HS6, ?_⟩)
   refine wj_v (k := 12) rfl (by kernel_rfl) (fun _ _ _ h => h) HS6 rfl rfl rfl (fun W HW => v_nil rfl) ?_
   refine wj_v (k := 13) rfl (by kernel_rfl) (fun _ _ _ h => h) HS6 rfl rfl rfl (fun W HW => v_fb (o2 := 7) fa103_2 rfl rfl) ?_
   refine wj_t (k := 14) rfl (by kernel_rfl) ?_
   refine wl_store (vs := [_]) H5 (by repeat constructor) sz101 rfl rfl rfl rfl rfl (by (repeat constructor)) ?_
   intro w7 H8 hw7
   refine wl_nil (tn ⟨fun hlt => absurd hlt (by rw [show allH _ _ _ = true by kernel_rfl]; simp), ?_⟩)
   refine wj_done (by kernel_rfl) ?_
   first
     | exact ⟨_, res0 rfl, _, _, rfl, .inl ⟨c0p, rfl⟩, H8.pmt (T := L) (by repeat constructor)⟩
     | exact ⟨_, res0 rfl, _, _, rfl, .inr ⟨c0p, rfl⟩, H8.pmt (T := L) (by repeat constructor)⟩
  ·have c0p := of_decide_eq_false c0
   refine wc_skip ?_
   first
     | exact ⟨_, res0 rfl, _, _, rfl, .inl ⟨c0p, rfl⟩, H2.pmt (T := L) (by repeat constructor)⟩
     | exact ⟨_, res0 rfl, _, _, rfl, .inr ⟨c0p, rfl⟩, H2.pmt (T := L) (by repeat constructor)⟩
end Go.Proofs.Ytkpehkadammppaa.KnownW
