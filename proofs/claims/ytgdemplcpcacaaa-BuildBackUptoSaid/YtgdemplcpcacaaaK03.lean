/- Nodes, derivations, and what actions make of them. Which trees are derivations of a row. Texts that have come up: a map's marks. Data: types, constructors, what actions' and nodes' types are. What a node's text is. Trees of the call's own: each row of kids lies apart from all others. The grammar of one production that is asked before anything is. A region that draws its order: walked in an order of the prover's. Builders of strings, walked. -/
import Derived.Test.YtgdemplcpcacaaaK02
import Derived.Test.YtgdemplcpcacaaaProg
import Derived.Laws.Externs
set_option linter.unusedVariables false
set_option linter.unusedSimpArgs false
/-! Nodes, derivations, and what actions make of them. -/
namespace Go.Proofs.YtgdemplcpcacaaaFx
open Go Go.RowKit
/-- What a node says, but for its kids. -/
structure NdP where
  kind : Int
  name : ByteArray
  tok : Int
  deriving DecidableEq
def fNd : Fk NdP := ⟨3, fun x => [.int .i64 x.kind, .string x.name, .int .i64 x.tok], fun _ => rfl, fun x u hu => by
  simp only [List.mem_cons, List.not_mem_nil, or_false] at hu
  rcases hu with rfl | rfl | rfl <;> rfl⟩
abbrev Nd := Tr NdP
def nd0 : Nd := .mk ⟨0, ⟨#[]⟩, 0⟩ []
structure DvP where
  prod : Int
  tok : Int
def fDv : Fk DvP := ⟨2, fun x => [.int .i64 x.prod, .int .i64 x.tok], fun _ => rfl, fun x u hu => by
  simp only [List.mem_cons, List.not_mem_nil, or_false] at hu
  rcases hu with rfl | rfl <;> rfl⟩
abbrev Dv := Tr DvP
def dv0 : Dv := .mk ⟨0, 0⟩ []
/-- A node's cells. -/
abbrev ndC (t : Nd) (A : Option Addr) (c : Nat) : List Value := [.int .i64 t.x.kind, .string t.x.name, .int .i64 t.x.tok, .slice A t.kids.length c]
mutual
/-- What an action makes of values. -/
def actV (ks : List Nd) : Ac → Nd
  | .mk x kids => if x.kind = 1 then ks.getD x.at_.toNat nd0 else if x.kind = 3 then .mk ⟨2, x.name, 0⟩ [] else if x.kind = 2 then .mk ⟨3, x.name, 0⟩ (actVs ks kids) else nd0
def actVs (ks : List Nd) : List Ac → List Nd
  | [] => []
  | a :: r => actV ks a :: actVs ks r
end
theorem actVs_eq (ks : List Nd) : ∀ l : List Ac, actVs ks l = l.map (actV ks)
  | [] => rfl
  | a :: r => by rw [actVs, actVs_eq ks r]; rfl
section
variable {ks : List Nd} {t : Ac}
theorem actV_pick (h : t.x.kind = 1) : actV ks t = ks.getD t.x.at_.toNat nd0 := by
  cases t with
  | mk x kids => have h' : x.kind = 1 := h; rw [actV, if_pos h']; rfl
theorem actV_text (h : t.x.kind = 3) : actV ks t = .mk ⟨2, t.x.name, 0⟩ [] := by
  cases t with
  | mk x kids => have h' : x.kind = 3 := h; rw [actV, if_neg (by omega), if_pos h']; rfl
theorem actV_node (h : t.x.kind = 2) : actV ks t = .mk ⟨3, t.x.name, 0⟩ (t.kids.map (actV ks)) := by
  cases t with
  | mk x kids => have h' : x.kind = 2 := h; rw [actV, if_neg (by omega), if_neg (by omega), if_pos h', actVs_eq]; rfl
theorem actV_none (h1 : t.x.kind ≠ 1) (h2 : t.x.kind ≠ 2) (h3 : t.x.kind ≠ 3) : actV ks t = nd0 := by
  cases t with
  | mk x kids =>
    have g1 : x.kind ≠ 1 := h1
    have g2 : x.kind ≠ 2 := h2
    have g3 : x.kind ≠ 3 := h3
    rw [actV, if_neg g1, if_neg g3, if_neg g2]
end
mutual
/-- What a derivation's actions make. -/
def valD (g : Pl) : Dv → Nd
  | .mk x kids => if x.prod < 0 then .mk ⟨1, ⟨#[]⟩, x.tok⟩ [] else actV (valDs g kids) (g.prods.getD x.prod.toNat pr0).act
def valDs (g : Pl) : List Dv → List Nd
  | [] => []
  | d :: r => valD g d :: valDs g r
end
theorem valDs_eq (g : Pl) : ∀ l : List Dv, valDs g l = l.map (valD g)
  | [] => rfl
  | a :: r => by rw [valDs, valDs_eq g r]; rfl
theorem valD_leaf {g : Pl} {d : Dv} (h : d.x.prod < 0) : valD g d = .mk ⟨1, ⟨#[]⟩, d.x.tok⟩ [] := by
  cases d with
  | mk x kids => have h' : x.prod < 0 := h; rw [valD, if_pos h']; rfl
theorem valD_node {g : Pl} {d : Dv} (h : ¬ d.x.prod < 0) : valD g d = actV (d.kids.map (valD g)) (g.prods.getD d.x.prod.toNat pr0).act := by
  cases d with
  | mk x kids => have h' : ¬ x.prod < 0 := h; rw [valD, if_neg h', valDs_eq]; rfl
theorem map_succ {α β : Type} (F : α → β) {xs : List α} {i : Nat} (z : α) (h : i < xs.length) : (xs.take (i + 1)).map F = (xs.take i).map F ++ [F (xs.getD i z)] := by
  rw [take_succ' z h, List.map_append]
  rfl
theorem map_take_len {α β : Type} (F : α → β) {xs : List α} {i : Nat} (h : i ≤ xs.length) : ((xs.take i).map F).length = i := by
  rw [List.length_map, List.length_take]
  omega
/-! ### frozen nodes -/
abbrev no : Nat → Prop := fun _ => False
section
variable {α : Type} {f : Fk α} {C : Addr → Value → Prop} {A : Option Addr} {ts : List (Tr α)} {W W0 w : World} {T : Nat → Prop} {L : List Ch}
theorem RdC.nil {β : Type} {d : Kr β} {A : Option Addr} : RdC d C A [] := ⟨fun h => absurd h (by simp), fun j x hx => by simp at hx⟩
theorem RdC.atTr (h : RdC (krTr f) C A ts) (z : Tr α) {i : Int} (h0 : 0 ≤ i) (hi : i < ts.length) : ∃ B c, (∀ k u, (f.enc (ts.getD i.toNat z).x ++ [.slice B (ts.getD i.toNat z).kids.length c])[k]? = some u → C (((adr A).add (i.toNat * (f.sz + 1))).add k) u) ∧ (ts.getD i.toNat z).kids.length ≤ c ∧ Tr.R f C (ts.getD i.toNat z) (f.enc (ts.getD i.toNat z).x ++ [.slice B (ts.getD i.toNat z).kids.length c]) := by
  have hl : i.toNat < ts.length := by omega
  obtain ⟨cs, h1, h2⟩ := h.el i.toNat _ (List.getElem?_eq_getElem hl)
  have he : ts.getD i.toNat z = ts[i.toNat] := by rw [List.getD_eq_getElem?_getD, List.getElem?_eq_getElem hl]; rfl
  rw [he]
  obtain ⟨B, c, rfl, h4, h5⟩ := Tr.R.open h1
  exact ⟨B, c, fun k u hu => by rw [add_add]; exact h2 k u hu, h4, h1⟩
theorem Holds.frzTr {e : Nat} {c : Nat} (x : α) (H : Holds W0 (FRow (krTr f) W T e (.slice A ts.length c) ts :: L) w) : Holds W0 (NX (krTr f) W T (.mk x ts) (f.enc x ++ [.slice A ts.length c]) :: L) w := H.head_imp fun S h => by
  obtain ⟨A', c', he, h2, h3⟩ := FRow.known h
  injection he with e1 _ e3
  subst e1 e3
  exact Tr.R.mk h2 h3
/-- A thing without kids. -/
theorem Holds.nxLeaf (x : α) (H : Holds W0 L w) : Holds W0 (NX (krTr f) W T (.mk x []) (f.enc x ++ [.slice none 0 0]) :: L) w := H.pure (A := NX (krTr f) W T (.mk x []) (f.enc x ++ [Value.slice none 0 0])) (Tr.R.mk (f := f) (x := x) (kids := []) (A := none) (c := 0) (Nat.le_refl 0) RdC.nil)
/-- As trees are read. -/
theorem Holds.nxTr {t : Tr α} {cs : List Value} (H : Holds W0 L w) (U : Upd L (NX (krTr f) W0 T t cs) (NX (krTr f) W0 T t cs) L) : ∃ A c, cs = f.enc t.x ++ [.slice A t.kids.length c] ∧ t.kids.length ≤ c ∧ Rd (kTr f) w A t.kids := by
  obtain ⟨A, c, h1, h2, h3⟩ := Tr.R.open (H.nx U)
  exact ⟨A, c, h1, h2, h3.tr⟩
end
theorem Holds.nxRd {W0 w : World} {T : Nat → Prop} {L : List Ch} {t : Nd} {A : Option Addr} {c : Nat} (H : Holds W0 L w) (U : Upd L (NX (krTr fNd) W0 T t (ndC t A c)) (NX (krTr fNd) W0 T t (ndC t A c)) L) : Rd (kTr fNd) w A t.kids := by
  obtain ⟨A', c', h1, _, h3⟩ := H.nxTr U
  have h2 : ndC t A c = ndC t A' c' := h1
  simp only [ndC, List.cons.injEq, Value.slice.injEq] at h2
  rw [h2.2.2.2.1.1]
  exact h3
theorem cells_one {v : Value} (h : v.oneCell' = true) : v.cells = [v].toArray := by cases v <;> first | rfl | (simp [Value.oneCell'] at h)
/-! ### values' sizes -/
/-- What is left of so many parts; -1: there are more. -/
def leftN (most : Int) (t : Nd) : Int := if (t.cnt : Int) ≤ most then most - t.cnt else -1
theorem leftN_t {most : Int} {t : Nd} (h : (t.cnt : Int) ≤ most) : leftN most t = most - t.cnt := if_pos h
theorem leftN_f {most : Int} {t : Nd} (h : ¬ (t.cnt : Int) ≤ most) : leftN most t = -1 := if_neg h
structure LSt (most : Int) (t : Nd) (i : Nat) (m : Int) : Prop where
  le : i ≤ t.kids.length
  yes : 0 ≤ m → m = most - 1 - Tr.cnts (t.kids.take i)
  no : m < 0 → m = -1 ∧ ¬ ((t.cnt : Int) ≤ most)
section
variable {most m : Int} {t : Nd} {i : Nat}
theorem LSt.start (h0 : 0 ≤ most) : LSt most t 0 (most - 1) := ⟨Nat.zero_le _, fun _ => by simp [Tr.cnts], fun h => ⟨by omega, by have := Tr.cnt_eq t; omega⟩⟩
theorem LSt.rng (h : LSt most t i m) (h0 : 0 ≤ most) : -1 ≤ m ∧ m ≤ most := by
  rcases Int.lt_or_le m 0 with h1 | h1
  · have := (h.no h1).1; omega
  · have := h.yes h1; omega
theorem LSt.next (h : LSt most t i m) (hi : i < t.kids.length) (h0 : 0 ≤ m) : LSt most t (i + 1) (leftN m (t.kids.getD i nd0)) := by
  have h2 := Tr.cnts_succ nd0 _ _ hi
  have h6 := Tr.cnts_take t.kids (i + 1)
  have h7 := Tr.cnt_eq t
  have y := h.yes h0
  rcases Classical.em (((t.kids.getD i nd0).cnt : Int) ≤ m) with hc | hc
  · rw [leftN_t hc]
    exact ⟨hi, fun _ => by omega, fun h => by omega⟩
  · rw [leftN_f hc]
    exact ⟨hi, fun h => by omega, fun _ => ⟨rfl, by omega⟩⟩
theorem LSt.fin (h : LSt most t i m) (hi : ¬ (i < t.kids.length) ∨ m < 0) : m = leftN most t := by
  have h7 := Tr.cnt_eq t
  rcases Int.lt_or_le m 0 with h0 | h0
  · obtain ⟨h1, h2⟩ := h.no h0
    rw [leftN_f h2, h1]
  · have y := h.yes h0
    have he : t.kids.take i = t.kids := List.take_of_length_le (by omega)
    rw [he] at y
    rw [leftN_t (by omega)]
    omega
end
/-! ### derivations that fit a grammar -/
def dvOk (g : Pl) (x : DvP) (k : Nat) : Prop := x.prod < 0 ∨ ((0 ≤ x.prod ∧ x.prod < g.prods.length) ∧ k = (g.prods.getD x.prod.toNat pr0).right.length)
/-- All actions may be. -/
def ActsOk (g : Pl) : Prop := ∀ i, i < g.prods.length → (g.prods.getD i pr0).act.All (nodeOk (g.prods.getD i pr0).right.length) ∧ (g.prods.getD i pr0).act.cnt ≤ 256
theorem GOk.acts {g : Pl} (h : GOk g) : ActsOk g := fun i hi => by
  obtain ⟨_, _, h1, h2⟩ := h.2.2 i hi
  exact ⟨h1, by omega⟩
/-- So many kids at most. -/
def few (_ : NdP) (k : Nat) : Prop := k ≤ 1099511627776
theorem actV_few {ks : List Nd} (hk : ∀ t ∈ ks, t.All few) : ∀ a : Ac, a.cnt ≤ 1099511627776 → (actV ks a).All few := Tr.ind fun x kids ih hc => by
  have hcn := Tr.cnt_eq (.mk x kids)
  have hkl := Tr.cnts_len kids
  have h0 : nd0.All few := by rw [nd0, Tr.All_eq]; exact ⟨Nat.zero_le _, by simp [Tr.Alls, Tr.kids]⟩
  have hcn' : (Tr.mk x kids).cnt = 1 + Tr.cnts kids := hcn
  rw [actV]
  split
  · rw [List.getD_eq_getElem?_getD]
    rcases Nat.lt_or_ge x.at_.toNat ks.length with h | h
    · rw [List.getElem?_eq_getElem h]; exact hk _ (List.getElem_mem h)
    · rw [List.getElem?_eq_none h]; exact h0
  · split
    · rw [Tr.All_eq]; exact ⟨Nat.zero_le _, by simp [Tr.Alls, Tr.kids]⟩
    · split
      · rw [Tr.All_eq, actVs_eq]
        refine ⟨?_, (Tr.Alls_iff _).2 fun t ht => ?_⟩
        · show (kids.map (actV ks)).length ≤ 1099511627776
          rw [List.length_map]
          omega
        · obtain ⟨a, ha, rfl⟩ := List.mem_map.1 ht
          refine ih a ha ?_
          obtain ⟨j, hj, rfl⟩ := List.mem_iff_getElem.1 ha
          have h1 := Tr.cnts_succ ac0 kids j hj
          have h2 := Tr.cnts_take kids (j + 1)
          have h3 : kids.getD j ac0 = kids[j] := by rw [List.getD_eq_getElem?_getD, List.getElem?_eq_getElem hj]; rfl
          rw [h3] at h1
          omega
      · exact h0
theorem valD_few {g : Pl} (hg : ActsOk g) : ∀ d : Dv, d.All (dvOk g) → (valD g d).All few := Tr.ind fun x kids ih h => by
  obtain ⟨h1, h2⟩ := (Tr.All_eq (.mk x kids)).1 h
  have h1' : dvOk g x kids.length := h1
  have h2' : Tr.Alls (dvOk g) kids := h2
  rcases Int.lt_or_le x.prod 0 with hp | hp
  · rw [valD_leaf (d := .mk x kids) hp, Tr.All_eq]
    exact ⟨Nat.zero_le _, by simp [Tr.Alls, Tr.kids]⟩
  · rw [valD_node (d := .mk x kids) (show ¬ x.prod < 0 by omega)]
    have h3 : (0 ≤ x.prod ∧ x.prod < g.prods.length) := h1'.elim (fun h => by omega) (fun h => h.1)
    refine actV_few (fun t ht => ?_) _ (by have := (hg x.prod.toNat (by omega)).2; show (g.prods.getD x.prod.toNat pr0).act.cnt ≤ _; omega)
    obtain ⟨d, hd, rfl⟩ := List.mem_map.1 ht
    exact ih d hd ((Tr.Alls_iff _).1 h2' d hd)
end Go.Proofs.YtgdemplcpcacaaaFx

/-! Which trees are derivations of a row. -/
namespace Go.Proofs.YtgdemplcpcacaaaFx
open Go Go.RowKit
theorem none_no {m : Nat} : ∀ q, (none : Option Nat) = some q → m = q := fun q h => by cases h
theorem some_is {m : Nat} : ∀ q, some m = some q → m = q := fun q h => by cases h; rfl
def leafOk (row : List Int) (d : DvP) (k : Nat) (x : Int) (at_ : Nat) : Prop := ((d.prod = -1 ∧ k = 0) ∧ d.tok = at_) ∧ at_ < row.length ∧ row.getD at_ 0 = x
def nodeFit (g : Pl) (d : DvP) (k : Nat) (x : Int) : Prop := ((0 ≤ d.prod ∧ d.prod < g.prods.length) ∧ d.tok = 0) ∧ (g.kinds.length + (g.prods.getD d.prod.toNat pr0).left = x ∧ k = (g.prods.getD d.prod.toNat pr0).right.length)
mutual
/-- A tree of a symbol, of what comes in the row from a place on: the place behind it. -/
noncomputable def shp (g : Pl) (row : List Int) : Dv → Int → Nat → Option Nat
  | .mk d kids => fun x at_ => if x < g.kinds.length then (if dec (leafOk row d kids.length x at_) then some (at_ + 1) else none) else if dec (nodeFit g d kids.length x) then shps g row kids (g.prods.getD d.prod.toNat pr0).right at_ else none
noncomputable def shps (g : Pl) (row : List Int) : List Dv → List Int → Nat → Option Nat
  | [] => fun _ at_ => some at_
  | k :: r => fun l at_ => (shp g row k (l.headD 0) at_).bind (shps g row r l.tail)
end
section
variable {g : Pl} {row : List Int} {d : Dv} {x : Int} {at_ a : Nat}
theorem shp_eq (d : Dv) (x : Int) (at_ : Nat) : shp g row d x at_ = if x < g.kinds.length then (if dec (leafOk row d.x d.kids.length x at_) then some (at_ + 1) else none) else if dec (nodeFit g d.x d.kids.length x) then shps g row d.kids (g.prods.getD d.x.prod.toNat pr0).right at_ else none := by
  cases d
  rw [shp]
  rfl
theorem shps_nil (l : List Int) (at_ : Nat) : shps g row [] l at_ = some at_ := by rw [shps]
theorem shps_cons (k : Dv) (r : List Dv) (l : List Int) (at_ : Nat) : shps g row (k :: r) l at_ = (shp g row k (l.headD 0) at_).bind (shps g row r l.tail) := by rw [shps]
theorem shp_leaf (hx : x < g.kinds.length) (h : leafOk row d.x d.kids.length x at_) : shp g row d x at_ = some (at_ + 1) := by rw [shp_eq, if_pos hx, dec_t h]; rfl
theorem shp_leaf_no (hx : x < g.kinds.length) (h : ¬ leafOk row d.x d.kids.length x at_) : shp g row d x at_ = none := by rw [shp_eq, if_pos hx, dec_f h]; rfl
theorem shp_node (hx : ¬ x < g.kinds.length) (h : nodeFit g d.x d.kids.length x) : shp g row d x at_ = shps g row d.kids (g.prods.getD d.x.prod.toNat pr0).right at_ := by rw [shp_eq, if_neg hx, dec_t h]; rfl
theorem shp_node_no (hx : ¬ x < g.kinds.length) (h : ¬ nodeFit g d.x d.kids.length x) : shp g row d x at_ = none := by rw [shp_eq, if_neg hx, dec_f h]; rfl
theorem headD_get (l : List Int) : l.headD 0 = l.getD 0 0 := by cases l <;> rfl
theorem shps_succ : ∀ (ts : List Dv) (l : List Int) (at_ i : Nat), i < ts.length → shps g row (ts.take (i + 1)) l at_ = (shps g row (ts.take i) l at_).bind (shp g row (ts.getD i dv0) (l.getD i 0))
  | [], _, _, i, h => by simp at h
  | t :: r, l, at_, 0, _ => by
    rw [List.take_succ_cons, List.take_zero, shps_cons, List.take_zero, shps_nil]
    rw [headD_get]
    show _ = shp g row t (l.getD 0 0) at_
    cases h : shp g row t (l.getD 0 0) at_ with
    | none => rfl
    | some b => exact shps_nil (g := g) (row := row) l.tail b
  | t :: r, l, at_, i + 1, h => by
    rw [List.take_succ_cons, List.take_succ_cons, shps_cons, shps_cons]
    have hl : l.getD (i + 1) 0 = l.tail.getD i 0 := by cases l <;> rfl
    rw [hl]
    cases hs : shp g row t (l.headD 0) at_ with
    | none => rfl
    | some b => exact shps_succ r l.tail b i (by simpa using h)
theorem shps_none : ∀ (ts : List Dv) (l : List Int) (at_ i : Nat), shps g row (ts.take i) l at_ = none → shps g row ts l at_ = none
  | [], _, _, i, h => by rw [List.take_nil] at h; exact h
  | t :: r, l, at_, 0, h => by rw [List.take_zero, shps_nil] at h; cases h
  | t :: r, l, at_, i + 1, h => by
    rw [List.take_succ_cons, shps_cons] at h
    rw [shps_cons]
    cases hs : shp g row t (l.headD 0) at_ with
    | none => rfl
    | some b =>
      rw [hs] at h
      exact shps_none r l.tail b i h
mutual
theorem shp_le : ∀ (d : Dv) (x : Int) (at_ a : Nat), shp g row d x at_ = some a → at_ ≤ a ∧ (at_ ≤ row.length → a ≤ row.length)
  | .mk y kids, x, at_, a, h => by
    rw [shp] at h
    dsimp only at h
    split at h
    · split at h
      · rename_i hl
        cases h
        have := (of_dec hl).2.1
        exact ⟨by omega, fun _ => by omega⟩
      · cases h
    · split at h
      · exact shps_le kids _ at_ a h
      · cases h
theorem shps_le : ∀ (ts : List Dv) (l : List Int) (at_ a : Nat), shps g row ts l at_ = some a → at_ ≤ a ∧ (at_ ≤ row.length → a ≤ row.length)
  | [], l, at_, a, h => by rw [shps_nil] at h; cases h; exact ⟨Nat.le_refl _, fun h => h⟩
  | t :: r, l, at_, a, h => by
    rw [shps_cons] at h
    obtain ⟨b, h1, h2⟩ := Option.bind_eq_some_iff.1 h
    have g1 := shp_le t _ _ _ h1
    have g2 := shps_le r _ _ _ h2
    exact ⟨by omega, fun h => g2.2 (g1.2 h)⟩
end
/-- What fits, at each node. -/
theorem shp_dv (hk : 0 ≤ x ∨ True) : ∀ (d : Dv) (x : Int) (at_ a : Nat), shp g row d x at_ = some a → d.All (dvOk g) := Tr.ind fun y kids ih x at_ a h => by
  rw [Tr.All_eq]
  rw [shp] at h
  dsimp only at h
  split at h
  · split at h
    · rename_i hl
      have hl' := (of_dec hl).1.1
      have : kids = [] := List.eq_nil_of_length_eq_zero hl'.2
      subst this
      exact ⟨.inl (by show y.prod < 0; omega), by simp [Tr.Alls, Tr.kids]⟩
    · cases h
  · split at h
    · rename_i hl
      have hl' := of_dec hl
      refine ⟨.inr ⟨hl'.1.1, hl'.2.2⟩, ?_⟩
      show Tr.Alls (dvOk g) kids
      clear hl hl'
      generalize (g.prods.getD y.prod.toNat pr0).right = l at h
      induction kids generalizing l at_ with
      | nil => simp [Tr.Alls]
      | cons t r ihr =>
        rw [shps_cons] at h
        obtain ⟨b, h1, h2⟩ := Option.bind_eq_some_iff.1 h
        rw [Tr.Alls]
        exact ⟨ih t List.mem_cons_self _ _ _ h1, ihr (fun t ht => ih t (List.mem_cons_of_mem _ ht)) _ _ h2⟩
    · cases h
/-- The tokens that a tree has read. -/
def RowAt (g : Pl) (row : List Int) (i j : Nat) : Prop := ∀ k, i ≤ k → k < j → 1 ≤ row.getD k 0 ∧ row.getD k 0 < g.kinds.length
theorem RowAt.cat {i j k : Nat} (h1 : RowAt g row i j) (h2 : RowAt g row j k) : RowAt g row i k := fun m hm hk => by
  rcases Nat.lt_or_ge m j with h | h
  · exact h1 m hm h
  · exact h2 m h hk
theorem shp_row (hg : GOk g) : ∀ (d : Dv) (x : Int) (at_ a : Nat), 1 ≤ x → shp g row d x at_ = some a → RowAt g row at_ a := Tr.ind fun y kids ih x at_ a hx h => by
  rw [shp] at h
  dsimp only at h
  split at h
  · rename_i hxk
    split at h
    · rename_i hl
      cases h
      have hl' := (of_dec hl).2.2
      intro k h1 h2
      have : k = at_ := by omega
      subst this
      rw [hl']
      exact ⟨hx, hxk⟩
    · cases h
  · split at h
    · rename_i hl
      have hl' := of_dec hl
      have hp := hg.2.2 y.prod.toNat (by have := hl'.1.1; omega)
      have hr : ∀ j, j < kids.length → 1 ≤ (g.prods.getD y.prod.toNat pr0).right.getD j 0 := fun j hj => (hp.2.1 j (by rw [← hl'.2.2]; exact hj)).1
      clear hl hl' hp
      generalize (g.prods.getD y.prod.toNat pr0).right = l at h hr
      induction kids generalizing l at_ with
      | nil =>
        rw [shps_nil] at h
        cases h
        exact fun k h1 h2 => by omega
      | cons t r ihr =>
        rw [shps_cons] at h
        obtain ⟨b, h1, h2⟩ := Option.bind_eq_some_iff.1 h
        refine (ih t List.mem_cons_self _ _ _ (by rw [headD_get]; exact hr 0 (by simp)) h1).cat (ihr (fun t ht => ih t (List.mem_cons_of_mem _ ht)) _ _ h2 fun j hj => ?_)
        have := hr (j + 1) (by simpa using hj)
        have hl2 : l.getD (j + 1) 0 = l.tail.getD j 0 := by cases l <;> rfl
        rwa [hl2] at this
    · cases h
end
/-- A tree is a derivation of a row. -/
def DrvOk (g : Pl) (d : Dv) (row : List Int) : Prop := GOk g ∧ row.length ≤ 65536 ∧ shp g row d (g.kinds.length + g.start) 0 = some row.length
theorem DrvOk.rowAt {g : Pl} {d : Dv} {row : List Int} (h : DrvOk g d row) : ∀ i, i < row.length → 1 ≤ row.getD i 0 ∧ row.getD i 0 < g.kinds.length := fun i hi => by
  have h1 := h.1.1.1.1
  have h2 := h.1.2.1.1
  exact shp_row h.1 _ _ _ _ (by omega) h.2.2 i (Nat.zero_le _) hi
theorem DrvOk.dv {g : Pl} {d : Dv} {row : List Int} (h : DrvOk g d row) : d.All (dvOk g) := shp_dv (x := 0) (.inr trivial) _ _ _ _ h.2.2
def RowsOk (g : Pl) (row : List Int) : Prop := ∀ i, i < row.length → 1 ≤ row.getD i 0 ∧ row.getD i 0 < g.kinds.length
/-- One of a row of productions, by a number. -/
theorem Rd.atPrI {w : World} {A : Option Addr} {ps : List Pr} (h : Rd kPr w A ps) {i : Int} (h0 : 0 ≤ i) (hi : i < ps.length) : ∃ R c B k, (∀ j u, ([.int .i64 (ps.getD i.toNat pr0).left, .slice R (ps.getD i.toNat pr0).right.length c, .int .i64 (ps.getD i.toNat pr0).level, .int .i64 (ps.getD i.toNat pr0).act.x.kind, .int .i64 (ps.getD i.toNat pr0).act.x.at_, .string (ps.getD i.toNat pr0).act.x.name, .slice B (ps.getD i.toNat pr0).act.kids.length k] : List Value)[j]? = some u → w.cell? (((adr A).add (i.toNat * 7)).add j) = some u) ∧ ((ps.getD i.toNat pr0).right.length ≤ c ∧ (ps.getD i.toNat pr0).act.kids.length ≤ k) ∧ Rd (kInt .i64) w R (ps.getD i.toNat pr0).right ∧ Rd (kTr fAc) w B (ps.getD i.toNat pr0).act.kids := by
  have := h.atPr (i := i.toNat) (by omega)
  rwa [Int.toNat_natCast] at this
/-- One of a row of trees, by a number. -/
theorem Rd.atTrI {α : Type} {f : Fk α} {w : World} {A : Option Addr} {ts : List (Tr α)} (h : Rd (kTr f) w A ts) (z : Tr α) {i : Int} (h0 : 0 ≤ i) (hi : i < ts.length) : ∃ B c, (∀ k u, (f.enc (ts.getD i.toNat z).x ++ [.slice B (ts.getD i.toNat z).kids.length c])[k]? = some u → w.cell? (((adr A).add (i.toNat * (f.sz + 1))).add k) = some u) ∧ (ts.getD i.toNat z).kids.length ≤ c ∧ Rd (kTr f) w B (ts.getD i.toNat z).kids := by
  have := h.atTr z (i := i.toNat) (by omega)
  rwa [Int.toNat_natCast] at this
theorem cnts_app {α : Type} : ∀ (l : List (Tr α)) (t : Tr α), Tr.cnts (l ++ [t]) = Tr.cnts l + t.cnt
  | [], t => by simp [Tr.cnts]
  | x :: r, t => by rw [List.cons_append, Tr.cnts, Tr.cnts, cnts_app r t]; omega
theorem getD_map {α β : Type} (F : α → β) (z : α) (z' : β) {l : List α} {i : Nat} (h : i < l.length) : (l.map F).getD i z' = F (l.getD i z) := by
  rw [List.getD_eq_getElem?_getD, List.getD_eq_getElem?_getD, List.getElem?_map, List.getElem?_eq_getElem h]
  rfl
theorem cnt_mem {α : Type} {t : Tr α} : ∀ {l : List (Tr α)}, t ∈ l → t.cnt ≤ Tr.cnts l
  | x :: r, h => by
    rw [Tr.cnts]
    rcases List.mem_cons.1 h with rfl | h
    · omega
    · have := cnt_mem h; omega
/-- So many parts are made; why no more. -/
def MSt (made why : Int) : Prop := (0 ≤ made ∧ made ≤ 65537) ∧ ((why = 0 ∧ made ≤ 65536) ∨ why = 213)
/-- n parts more, if there is room. -/
def MRes (made why : Int) (n : Nat) (made2 why2 : Int) : Prop := MSt made2 why2 ∧ ((why = 0 ∧ made + n ≤ 65536 → made2 = made + n ∧ why2 = 0) ∧ (¬ (why = 0 ∧ made + n ≤ 65536) → why2 = 213))
theorem MRes.cat {m0 y0 m1 y1 m2 y2 : Int} {n1 n2 : Nat} (h1 : MRes m0 y0 n1 m1 y1) (h2 : MRes m1 y1 n2 m2 y2) : MRes m0 y0 (n1 + n2) m2 y2 := by
  obtain ⟨s1, a1, b1⟩ := h1
  obtain ⟨s2, a2, b2⟩ := h2
  refine ⟨s2, fun h => ?_, fun h => ?_⟩
  · obtain ⟨e1, e2⟩ := a1 ⟨h.1, by omega⟩
    obtain ⟨e3, e4⟩ := a2 ⟨e2, by omega⟩
    exact ⟨by omega, e4⟩
  · rcases Classical.em (y0 = 0 ∧ m0 + n1 ≤ 65536) with h3 | h3
    · obtain ⟨e1, e2⟩ := a1 h3
      exact b2 fun h4 => h ⟨h3.1, by omega⟩
    · have := b1 h3
      exact b2 fun h4 => by omega
theorem MRes.zero {m0 y0 m1 y1 : Int} {n : Nat} (h : MRes m0 y0 n m1 y1) (hy : y1 = 0) : y0 = 0 := Classical.byContradiction fun h0 => by
  have := h.2.2 fun h1 => h0 h1.1
  omega
theorem MRes.stuck {m0 y0 : Int} {n : Nat} (hs : MSt m0 y0) (h : y0 ≠ 0) : MRes m0 y0 n m0 y0 := ⟨hs, fun h1 => absurd h1.1 h, fun _ => by rcases hs.2 with h2 | h2 <;> omega⟩
theorem MRes.one {m0 y0 y1 : Int} (hs : MSt m0 y0) (h0 : y0 = 0) (h : (65536 < m0 + 1 ∧ y1 = 213) ∨ (¬ 65536 < m0 + 1 ∧ y1 = y0)) : MRes m0 y0 1 (m0 + 1) y1 := by
  obtain ⟨h1, h2⟩ := hs
  refine ⟨⟨by omega, by omega⟩, fun h3 => ⟨by omega, by omega⟩, fun h3 => by omega⟩
/-- The error of a value, and the value. -/
noncomputable def valE (g : Pl) (d : Dv) (row : List Int) : Int := if dec (GOk g) then (if dec (DrvOk g d row) then (if (valD g d).cnt ≤ 65536 then 0 else 213) else 8) else 130
noncomputable def valR (g : Pl) (d : Dv) (row : List Int) : Nd := if valE g d row = 0 then valD g d else nd0
section
variable {g : Pl} {d : Dv} {row : List Int}
theorem valE_plain (h : ¬ GOk g) : valE g d row = 130 ∧ valR g d row = nd0 := by
  have e : valE g d row = 130 := by rw [valE, dec_f h]; rfl
  exact ⟨e, by rw [valR, e]; rfl⟩
theorem valE_none (h : GOk g) (h2 : ¬ DrvOk g d row) : valE g d row = 8 ∧ valR g d row = nd0 := by
  have e : valE g d row = 8 := by rw [valE, dec_t h, dec_f h2]; rfl
  exact ⟨e, by rw [valR, e]; rfl⟩
theorem valE_many (h2 : DrvOk g d row) (h3 : ¬ (valD g d).cnt ≤ 65536) : valE g d row = 213 ∧ valR g d row = nd0 := by
  have e : valE g d row = 213 := by rw [valE, dec_t h2.1, dec_t h2, if_neg h3]; rfl
  exact ⟨e, by rw [valR, e]; rfl⟩
theorem valE_ok (h2 : DrvOk g d row) (h3 : (valD g d).cnt ≤ 65536) : valE g d row = 0 ∧ valR g d row = valD g d := by
  have e : valE g d row = 0 := by rw [valE, dec_t h2.1, dec_t h2, if_pos h3]; rfl
  exact ⟨e, by rw [valR, e]; rfl⟩
end
end Go.Proofs.YtgdemplcpcacaaaFx

/-! Texts that have come up: a map's marks. -/
namespace Go.Proofs.YtgdemplcpcacaaaFx
open Go Go.RowKit
noncomputable def metF (l : List ByteArray) (y : ByteArray) : Option Bool := if dec (y ∈ l) then some true else none
theorem metF_t {l : List ByteArray} {y : ByteArray} (h : y ∈ l) : metF l y = some true := by rw [metF, dec_t h]; rfl
theorem metF_f {l : List ByteArray} {y : ByteArray} (h : y ∉ l) : metF l y = none := by rw [metF, dec_f h]; rfl
theorem metF_nil : (fun _ => none) = metF [] := by
  funext y
  rw [metF_f (by simp)]
theorem metF_get (l : List ByteArray) (x : ByteArray) : ((metF l x).map Value.bool).getD (.bool false) = .bool (dec (x ∈ l)) := by
  rcases Classical.em (x ∈ l) with h | h
  · rw [metF_t h, dec_t h]; rfl
  · rw [metF_f h, dec_f h]; rfl
theorem metF_add (l : List ByteArray) (x : ByteArray) : (fun y => if y = x then some true else metF l y) = metF (l ++ [x]) := by
  funext y
  by_cases h : y = x
  · rw [if_pos h, metF_t (by simp [h])]
  · rw [if_neg h]
    rcases Classical.em (y ∈ l) with h2 | h2
    · rw [metF_t h2, metF_t (by simp [h2])]
    · rw [metF_f h2, metF_f (by simp [h2, h])]
theorem metF_succ {l : List ByteArray} {i : Nat} (h : i < l.length) : (fun y => if y = l.getD i ByteArray.empty then some true else metF (l.take i) y) = metF (l.take (i + 1)) := by
  rw [metF_add, take_succ' ByteArray.empty h]
theorem dist_iff {l : List ByteArray} {i : Nat} (h : i < l.length) : Dist l i ↔ l.getD i ByteArray.empty ∉ l.take i := by
  constructor
  · intro hd hm
    obtain ⟨k, hk, he⟩ := List.mem_take_iff_getElem.1 hm
    have hk' : k < i := by omega
    refine hd k hk' ?_
    rw [List.getD_eq_getElem?_getD, List.getElem?_eq_getElem (by omega)]
    exact he
  · intro hn k hk he
    refine hn (List.mem_take_iff_getElem.2 ⟨k, by omega, ?_⟩)
    rw [← he, List.getD_eq_getElem?_getD, List.getElem?_eq_getElem (by omega)]
    rfl
end Go.Proofs.YtgdemplcpcacaaaFx

/-! Data: types, constructors, what actions' and nodes' types are. -/
namespace Go.Proofs.YtgdemplcpcacaaaFx
open Go Go.RowKit
theorem v_look_okE {P : Program} {n : Nat} {l : Fr} {w W0 : World} {L : List Ch} {d : Nat} {x y : Operand} {ty t : TypeId} {pos : String} {af : Array Edge} {kt : TypeId} {κ β : Type} {Kk : KeyK P kt κ} {enc : β → Value} {f : κ → Option β} {b N : Nat} {e : TypeId} {z u : Value} {kx : κ} (H : Holds W0 L w) (U : Upd L (Mp Kk enc b N f) (Mp Kk enc b N f) L) (ht : P.underlying t = some (.map kt e)) (hz : ∀ W, (zeroValue e).run P W = .ok z W) (hk : Kk.ok kx) (hx : ev l x = some (.map (some b))) (hy : ev l y = some (Kk.val kx)) (he : ((f kx).map enc).getD z = u) :
    Vs P n l ⟨some d, .lookup t x y true, ty, pos, af, none⟩ w (.tuple #[u, .bool (f kx).isSome]) := by subst he; exact v_look_ok H U ht hz hk hx hy
theorem opt_none {α : Type} {o : Option α} (h : o.isSome = false) : o = none := by
  cases o with
  | none => rfl
  | some a => cases h
abbrev tx : ByteArray := ⟨#[116, 101, 120, 116]⟩
abbrev s0 : ByteArray := ⟨#[]⟩
structure Ct where
  name : ByteArray
  fields : List ByteArray
structure Dt where
  name : ByteArray
  ctors : List Ct
def ct0 : Ct := ⟨s0, []⟩
def dt0 : Dt := ⟨s0, []⟩
def kCt : Kn Ct where
  sz := 2
  K := fun w p cs => ∃ A c, cs = [.string p.name, .slice A p.fields.length c] ∧ p.fields.length ≤ c ∧ Rd kStr w A p.fields
  len := fun ⟨_, _, h, _⟩ => by rw [h]; rfl
  one := fun ⟨_, _, h, _⟩ u hu => by
    rw [h] at hu
    simp only [List.mem_cons, List.not_mem_nil, or_false] at hu
    rcases hu with rfl | rfl <;> rfl
  st := fun hb ⟨A, c, h, hl, h1⟩ => ⟨A, c, h, hl, h1.below hb⟩
def kDt : Kn Dt where
  sz := 2
  K := fun w p cs => ∃ A c, cs = [.string p.name, .slice A p.ctors.length c] ∧ p.ctors.length ≤ c ∧ Rd kCt w A p.ctors
  len := fun ⟨_, _, h, _⟩ => by rw [h]; rfl
  one := fun ⟨_, _, h, _⟩ u hu => by
    rw [h] at hu
    simp only [List.mem_cons, List.not_mem_nil, or_false] at hu
    rcases hu with rfl | rfl <;> rfl
  st := fun hb ⟨A, c, h, hl, h1⟩ => ⟨A, c, h, hl, h1.below hb⟩
theorem Rd.atCt {w : World} {A : Option Addr} {ps : List Ct} (h : Rd kCt w A ps) {i : Nat} (hi : i < ps.length) : ∃ R c, (∀ j u, ([.string (ps.getD i ct0).name, .slice R (ps.getD i ct0).fields.length c] : List Value)[j]? = some u → w.cell? (((adr A).add ((i : Int).toNat * 2)).add j) = some u) ∧ (ps.getD i ct0).fields.length ≤ c ∧ Rd kStr w R (ps.getD i ct0).fields := by
  obtain ⟨cs, ⟨R, c, rfl, hl, h1⟩, hc⟩ := h.get ct0 (i := (i : Int)) (by omega) (by omega)
  rw [Int.toNat_natCast] at hl h1 hc ⊢
  exact ⟨R, c, hc, hl, h1⟩
theorem Rd.atDt {w : World} {A : Option Addr} {ps : List Dt} (h : Rd kDt w A ps) {i : Nat} (hi : i < ps.length) : ∃ R c, (∀ j u, ([.string (ps.getD i dt0).name, .slice R (ps.getD i dt0).ctors.length c] : List Value)[j]? = some u → w.cell? (((adr A).add ((i : Int).toNat * 2)).add j) = some u) ∧ (ps.getD i dt0).ctors.length ≤ c ∧ Rd kCt w R (ps.getD i dt0).ctors := by
  obtain ⟨cs, ⟨R, c, rfl, hl, h1⟩, hc⟩ := h.get dt0 (i := (i : Int)) (by omega) (by omega)
  rw [Int.toNat_natCast] at hl h1 hc ⊢
  exact ⟨R, c, hc, hl, h1⟩
/-- The constructors of some data. -/
def ctsOf (d : Dt) (cs : List Ct) : List (ByteArray × Ct) := cs.map fun c => (d.name, c)
def flat (l : List Dt) : List (ByteArray × Ct) := l.flatMap fun d => ctsOf d d.ctors
def nms (l : List Dt) : List ByteArray := l.map Dt.name
structure DOk (l : List Dt) : Prop where
  len : l.length ≤ 1099511627776
  n : ∀ d ∈ l, d.name.size ≤ 1099511627776
  f : (flat l).length ≤ 1099511627776
  cn : ∀ p ∈ flat l, p.2.name.size ≤ 1099511627776 ∧ p.2.fields.length ≤ 1099511627776 ∧ ∀ s ∈ p.2.fields, s.size ≤ 1099511627776
def fnd (P : List (ByteArray × Ct)) (s : ByteArray) : Option (ByteArray × Ct) := P.find? fun p => decide (p.2.name = s)
def ofF (P : List (ByteArray × Ct)) (s : ByteArray) : Option ByteArray := (fnd P s).map (·.1)
/-- A map's constructors. -/
def CRel (w : World) (P : List (ByteArray × Ct)) (f : ByteArray → Option Value) : Prop := ∀ s, (fnd P s = none → f s = none) ∧ ∀ p, fnd P s = some p → ∃ A c, f s = some (.agg #[.string p.2.name, .slice A p.2.fields.length c]) ∧ p.2.fields.length ≤ c ∧ Rd kStr w A p.2.fields
theorem fnd_nil (s : ByteArray) : fnd [] s = none := rfl
theorem fnd_app (P : List (ByteArray × Ct)) (p : ByteArray × Ct) (s : ByteArray) : fnd (P ++ [p]) s = (fnd P s).or (if p.2.name = s then some p else none) := by
  unfold fnd
  rw [List.find?_append]
  congr 1
  rw [List.find?_cons]
  by_cases h : p.2.name = s
  · simp [h]
  · simp [h]
theorem fnd_name {P : List (ByteArray × Ct)} {s : ByteArray} {p : ByteArray × Ct} (h : fnd P s = some p) : p.2.name = s ∧ p ∈ P := ⟨by simpa using List.find?_some h, List.mem_of_find?_eq_some h⟩
theorem fnd_none {P : List (ByteArray × Ct)} {s : ByteArray} : fnd P s = none ↔ ∀ p ∈ P, p.2.name ≠ s := by
  unfold fnd
  rw [List.find?_eq_none]
  simp
theorem CRel.nil (w : World) : CRel w [] (fun _ => none) := fun s => ⟨fun _ => rfl, fun p h => by cases h⟩
theorem CRel.add {w : World} {P : List (ByteArray × Ct)} {f : ByteArray → Option Value} (h : CRel w P f) {d : ByteArray} {c : Ct} (hn : fnd P c.name = none) {A : Option Addr} {k : Nat} (hl : c.fields.length ≤ k) (hr : Rd kStr w A c.fields) : CRel w (P ++ [(d, c)]) (fun y => if y = c.name then some (.agg #[.string c.name, .slice A c.fields.length k]) else f y) := fun s => by
  rw [fnd_app]
  by_cases hs : s = c.name
  · subst hs
    rw [hn]
    have e1 : (none : Option (ByteArray × Ct)).or (if (d, c).2.name = c.name then some (d, c) else none) = some (d, c) := by rw [if_pos rfl]; rfl
    rw [e1]
    dsimp only
    rw [if_pos rfl]
    refine ⟨fun h => (by cases h), fun p hp => ?_⟩
    cases hp
    exact ⟨A, k, rfl, hl, hr⟩
  · have h2 : ¬ ((d, c).2.name = s) := fun e => hs e.symm
    rw [if_neg h2, Option.or_none]
    dsimp only
    rw [if_neg hs]
    exact h s
/-- What a look finds: a constructor, or none. -/
theorem CRel.look {w : World} {P : List (ByteArray × Ct)} {f : ByteArray → Option Value} (h : CRel w P f) (s : ByteArray) : ∃ (q : Ct) (A : Option Addr) (c : Nat), ((f s).map fun v => v).getD (.agg #[.string ⟨#[]⟩, .slice none 0 0]) = .agg #[.string q.name, .slice A q.fields.length c] ∧ q.fields.length ≤ c ∧ Rd kStr w A q.fields ∧ (f s).isSome = (fnd P s).isSome ∧ ∀ p, fnd P s = some p → q = p.2 := by
  obtain ⟨h1, h2⟩ := h s
  cases hf : fnd P s with
  | none =>
    rw [h1 hf]
    exact ⟨ct0, none, 0, rfl, Nat.le_refl _, Rd.nil _ _ _, rfl, fun p hp => by cases hp⟩
  | some p =>
    obtain ⟨A, c, h3, h4, h5⟩ := h2 p hf
    rw [h3]
    exact ⟨p.2, A, c, rfl, h4, h5, rfl, fun p' hp => by cases hp; rfl⟩
theorem ofF_nil : (fun _ => none) = ofF [] := rfl
theorem ofF_add {P : List (ByteArray × Ct)} {d : ByteArray} {c : Ct} (hn : fnd P c.name = none) : (fun y => if y = c.name then some d else ofF P y) = ofF (P ++ [(d, c)]) := by
  funext y
  unfold ofF
  rw [fnd_app]
  by_cases hs : y = c.name
  · subst hs
    rw [hn, if_pos rfl, if_pos rfl]
    rfl
  · rw [if_neg hs, if_neg (fun e => hs e.symm), Option.or_none]
/-! ### which data may be -/
def dtOk (l : List Dt) (i : Nat) : Prop := NameOk 32 (l.getD i dt0).name ∧ (l.getD i dt0).name ≠ tx ∧ (l.getD i dt0).name ∉ nms (l.take i)
def ctOk (P : List (ByteArray × Ct)) (j : Nat) : Prop := NameOk 32 (P.getD j (s0, ct0)).2.name ∧ fnd (P.take j) (P.getD j (s0, ct0)).2.name = none
def Once (l : List Dt) : Prop := (∀ i, i < l.length → dtOk l i) ∧ ∀ j, j < (flat l).length → ctOk (flat l) j
def FldOk (l : List Dt) (f : ByteArray) : Prop := f = tx ∨ f ∈ nms l
def Typd (l : List Dt) : Prop := ∀ p ∈ flat l, ∀ f ∈ p.2.fields, FldOk l f
noncomputable def dataE (l : List Dt) : Int := if dec (Once l) then (if dec (Typd l) then 0 else 210) else 212
theorem dataE_t {l : List Dt} (h1 : Once l) (h2 : Typd l) : dataE l = 0 := by rw [dataE, dec_t h1, dec_t h2]; rfl
theorem dataE_ty {l : List Dt} (h1 : Once l) (h2 : ¬ Typd l) : dataE l = 210 := by rw [dataE, dec_t h1, dec_f h2]; rfl
theorem dataE_tw {l : List Dt} (h1 : ¬ Once l) : dataE l = 212 := by rw [dataE, dec_f h1]; rfl
theorem dataE_0 {l : List Dt} (h : dataE l = 0) : Once l ∧ Typd l := by
  rcases Classical.em (Once l) with h1 | h1
  · rcases Classical.em (Typd l) with h2 | h2
    · exact ⟨h1, h2⟩
    · rw [dataE_ty h1 h2] at h; omega
  · rw [dataE_tw h1] at h; omega
/-- What is laid down of the data before i, and of j constructors of that. -/
def upC (l : List Dt) (i j : Nat) : List (ByteArray × Ct) := flat (l.take i) ++ ctsOf (l.getD i dt0) ((l.getD i dt0).ctors.take j)
section
variable {l : List Dt} {i j : Nat}
theorem flat_app (a b : List Dt) : flat (a ++ b) = flat a ++ flat b := List.flatMap_append ..
theorem upC_zero : upC l i 0 = flat (l.take i) := by unfold upC ctsOf; simp
theorem upC_succ (h : j < (l.getD i dt0).ctors.length) : upC l i (j + 1) = upC l i j ++ [((l.getD i dt0).name, (l.getD i dt0).ctors.getD j ct0)] := by
  unfold upC ctsOf
  rw [take_succ' ct0 h, List.map_append, List.append_assoc]
  rfl
theorem upC_last (hi : i < l.length) (h : (l.getD i dt0).ctors.length ≤ j) : upC l i j = flat (l.take (i + 1)) := by
  unfold upC
  rw [List.take_of_length_le h, take_succ' dt0 hi, flat_app]
  congr 1
  unfold flat
  simp
theorem upC_prefix (hi : i < l.length) : ∃ R, flat l = upC l i j ++ R := by
  refine ⟨ctsOf (l.getD i dt0) ((l.getD i dt0).ctors.drop j) ++ flat (l.drop (i + 1)), ?_⟩
  unfold upC
  rw [List.append_assoc, ← List.append_assoc (ctsOf _ _)]
  have h1 : ctsOf (l.getD i dt0) ((l.getD i dt0).ctors.take j) ++ ctsOf (l.getD i dt0) ((l.getD i dt0).ctors.drop j) = ctsOf (l.getD i dt0) (l.getD i dt0).ctors := by
    unfold ctsOf
    rw [← List.map_append, List.take_append_drop]
  rw [h1]
  have h2 : flat (l.take (i + 1)) ++ flat (l.drop (i + 1)) = flat l := by rw [← flat_app, List.take_append_drop]
  rw [← h2, take_succ' dt0 hi, flat_app, List.append_assoc]
  congr 2
  unfold flat
  simp
theorem upC_len (hi : i < l.length) : (upC l i j).length ≤ (flat l).length := by
  obtain ⟨R, h⟩ := upC_prefix (j := j) hi
  rw [h, List.length_append]
  omega
/-- The constructor that comes next. -/
theorem upC_at (hi : i < l.length) (hj : j < (l.getD i dt0).ctors.length) : (upC l i j).length < (flat l).length ∧ (flat l).getD (upC l i j).length (s0, ct0) = ((l.getD i dt0).name, (l.getD i dt0).ctors.getD j ct0) ∧ (flat l).take (upC l i j).length = upC l i j := by
  obtain ⟨R, h⟩ := upC_prefix (j := j + 1) hi
  rw [upC_succ hj, List.append_assoc] at h
  refine ⟨by rw [h]; simp, ?_, by rw [h, List.take_left]⟩
  rw [h, List.getD_eq_getElem?_getD, List.getElem?_append_right (Nat.le_refl _), Nat.sub_self]
  rfl
theorem upC_mem (hi : i < l.length) (hj : j < (l.getD i dt0).ctors.length) : ((l.getD i dt0).name, (l.getD i dt0).ctors.getD j ct0) ∈ flat l := by
  obtain ⟨h1, h2, _⟩ := upC_at hi hj
  rw [← h2]
  exact getD_mem h1
theorem nms_take : nms (l.take i) = (nms l).take i := by unfold nms; rw [List.map_take]
theorem nms_get (h : i < l.length) : (nms l).getD i s0 = (l.getD i dt0).name := getD_map Dt.name dt0 s0 h
theorem nms_len : (nms l).length = l.length := List.length_map ..
theorem metF_nms (h : i < l.length) : (fun y => if y = (l.getD i dt0).name then some true else metF ((nms l).take i) y) = metF ((nms l).take (i + 1)) := by
  rw [metF_add, take_succ' s0 (by rw [nms_len]; exact h), nms_get h]
theorem upC_next (hi : i < l.length) (h : (l.getD i dt0).ctors.length ≤ j) : upC l (i + 1) 0 = upC l i j := by rw [upC_zero, upC_last hi h]
theorem upC_len1 (h : j < (l.getD i dt0).ctors.length) : (upC l i (j + 1)).length = (upC l i j).length + 1 := by rw [upC_succ h, List.length_append]; rfl
theorem upC_of (h : j < (l.getD i dt0).ctors.length) (hn : fnd (upC l i j) ((l.getD i dt0).ctors.getD j ct0).name = none) : ofF (upC l i (j + 1)) = (fun y => if y = ((l.getD i dt0).ctors.getD j ct0).name then some (l.getD i dt0).name else ofF (upC l i j) y) := by rw [upC_succ h, ofF_add hn]
/-- So far all is well. -/
structure OnceTo (l : List Dt) (i j : Nat) : Prop where
  d : ∀ k, k < i → dtOk l k
  c : ∀ k, k < (upC l i j).length → ctOk (flat l) k
theorem OnceTo.next (h : OnceTo l i j) (hi : i < l.length) (hj : j < (l.getD i dt0).ctors.length) (h1 : NameOk 32 ((l.getD i dt0).ctors.getD j ct0).name) (h2 : fnd (upC l i j) ((l.getD i dt0).ctors.getD j ct0).name = none) : OnceTo l i (j + 1) := ⟨h.d, fun k hk => by
  rw [upC_succ hj, List.length_append] at hk
  rcases Nat.lt_or_ge k (upC l i j).length with h3 | h3
  · exact h.c k h3
  · have : k = (upC l i j).length := by simp at hk; omega
    subst this
    obtain ⟨_, g2, g3⟩ := upC_at hi hj
    unfold ctOk
    rw [g2, g3]
    exact ⟨h1, h2⟩⟩
theorem OnceTo.no_ct (hi : i < l.length) (hj : j < (l.getD i dt0).ctors.length) (h : ¬ (NameOk 32 ((l.getD i dt0).ctors.getD j ct0).name ∧ fnd (upC l i j) ((l.getD i dt0).ctors.getD j ct0).name = none)) : ¬ Once l := fun ho => h (by
  obtain ⟨g1, g2, g3⟩ := upC_at hi hj
  have := ho.2 _ g1
  unfold ctOk at this
  rw [g2, g3] at this
  exact this)
theorem OnceTo.row (h : OnceTo l i j) (hi : i < l.length) (hj : (l.getD i dt0).ctors.length ≤ j) (hd : dtOk l i) : OnceTo l (i + 1) 0 := ⟨fun k hk => by
  rcases Nat.lt_or_ge k i with h1 | h1
  · exact h.d k h1
  · have : k = i := by omega
    rw [this]; exact hd, by rw [upC_zero, ← upC_last hi hj]; exact h.c⟩
theorem OnceTo.fin (h : OnceTo l i 0) (hi : l.length ≤ i) : Once l := ⟨fun k hk => h.d k (by omega), fun k hk => h.c k (by rw [upC_zero, List.take_of_length_le hi]; exact hk)⟩
theorem OnceTo.start : OnceTo l 0 0 := ⟨fun k hk => by omega, fun k hk => by rw [upC_zero] at hk; simp [flat] at hk⟩
/-- So far all fields are types. -/
def TypdTo (l : List Dt) (i j k : Nat) : Prop := (∀ p ∈ upC l i j, ∀ f ∈ p.2.fields, FldOk l f) ∧ ∀ f ∈ ((l.getD i dt0).ctors.getD j ct0).fields.take k, FldOk l f
theorem TypdTo.start : TypdTo l 0 0 0 := ⟨fun p hp => by rw [upC_zero] at hp; simp [flat] at hp, fun f hf => by simp at hf⟩
theorem TypdTo.next {k : Nat} (h : TypdTo l i j k) (hk : k < ((l.getD i dt0).ctors.getD j ct0).fields.length) (hf : FldOk l (((l.getD i dt0).ctors.getD j ct0).fields.getD k s0)) : TypdTo l i j (k + 1) := ⟨h.1, fun f hm => by
  rw [take_succ' s0 hk] at hm
  rcases List.mem_append.1 hm with h1 | h1
  · exact h.2 f h1
  · rw [List.mem_singleton.1 h1]; exact hf⟩
theorem TypdTo.ct {k : Nat} (h : TypdTo l i j k) (hj : j < (l.getD i dt0).ctors.length) (hk : ((l.getD i dt0).ctors.getD j ct0).fields.length ≤ k) : TypdTo l i (j + 1) 0 := ⟨fun p hp => by
  rw [upC_succ hj] at hp
  rcases List.mem_append.1 hp with h1 | h1
  · exact h.1 p h1
  · rw [List.mem_singleton.1 h1]
    have := h.2
    rw [List.take_of_length_le hk] at this
    exact this, fun f hf => by simp at hf⟩
theorem TypdTo.row (h : TypdTo l i j 0) (hi : i < l.length) (hj : (l.getD i dt0).ctors.length ≤ j) : TypdTo l (i + 1) 0 0 := ⟨fun p hp => by rw [upC_zero, ← upC_last hi hj] at hp; exact h.1 p hp, fun f hf => by simp at hf⟩
theorem TypdTo.fin (h : TypdTo l i 0 0) (hi : l.length ≤ i) : Typd l := fun p hp => h.1 p (by rw [upC_zero, List.take_of_length_le hi]; exact hp)
end
theorem DOk.up {l : List Dt} (h : DOk l) {i j : Nat} (hi : i < l.length) (hj : j < (l.getD i dt0).ctors.length) : ((l.getD i dt0).ctors.getD j ct0).name.size ≤ 1099511627776 ∧ ((l.getD i dt0).ctors.getD j ct0).fields.length ≤ 1099511627776 ∧ ∀ s ∈ ((l.getD i dt0).ctors.getD j ct0).fields, s.size ≤ 1099511627776 := h.cn _ (upC_mem hi hj)
theorem DOk.nm {l : List Dt} (h : DOk l) {i : Nat} (hi : i < l.length) : (l.getD i dt0).name.size ≤ 1099511627776 := h.n _ (getD_mem hi)
theorem DOk.cl {l : List Dt} (h : DOk l) {i : Nat} (hi : i < l.length) : (l.getD i dt0).ctors.length ≤ 1099511627776 := by
  have h1 := upC_len (j := (l.getD i dt0).ctors.length) hi
  have h2 := h.f
  unfold upC at h1
  rw [List.take_length, List.length_append] at h1
  unfold ctsOf at h1
  rw [List.length_map] at h1
  omega
theorem v_lookR {P : Program} {n : Nat} {l : Fr} {w : World} {d : Nat} {x y : Operand} {ty t : TypeId} {pos : String} {af : Array Edge} {kt : TypeId} {κ β : Type} {Kk : KeyK P kt κ} {enc : β → Value} {f : κ → Option β} {b N : Nat} {e : TypeId} {z u : Value} {kx : κ} {S : Nat → Prop} (hM : (Mp Kk enc b N f).p w S) (ht : P.underlying t = some (.map kt e)) (hz : ∀ W, (zeroValue e).run P W = .ok z W) (hk : Kk.ok kx) (hx : ev l x = some (.map (some b))) (hy : ev l y = some (Kk.val kx)) (he : ((f kx).map enc).getD z = u) :
    Vs P n l ⟨some d, .lookup t x y false, ty, pos, af, none⟩ w u := fun a ha => by
  have h := run_look hM ht hz hk false
  simp only [Bool.false_eq_true, if_false, he] at h
  simp [execOp, ha.eval hx, ha.eval hy, h]
theorem v_lookRok {P : Program} {n : Nat} {l : Fr} {w : World} {d : Nat} {x y : Operand} {ty t : TypeId} {pos : String} {af : Array Edge} {kt : TypeId} {κ β : Type} {Kk : KeyK P kt κ} {enc : β → Value} {f : κ → Option β} {b N : Nat} {e : TypeId} {z u : Value} {kx : κ} {S : Nat → Prop} (hM : (Mp Kk enc b N f).p w S) (ht : P.underlying t = some (.map kt e)) (hz : ∀ W, (zeroValue e).run P W = .ok z W) (hk : Kk.ok kx) (hx : ev l x = some (.map (some b))) (hy : ev l y = some (Kk.val kx)) (he : ((f kx).map enc).getD z = u) :
    Vs P n l ⟨some d, .lookup t x y true, ty, pos, af, none⟩ w (.tuple #[u, .bool (f kx).isSome]) := fun a ha => by
  have h := run_look hM ht hz hk true
  simp only [if_true, he] at h
  simp [execOp, ha.eval hx, ha.eval hy, h]
theorem ofF_some {P : List (ByteArray × Ct)} {s : ByteArray} {p : ByteArray × Ct} (h : fnd P s = some p) : ((ofF P s).map Value.string).getD (.string ⟨#[]⟩) = .string p.1 := by unfold ofF; rw [h]; rfl
theorem ofF_look (P : List (ByteArray × Ct)) (s : ByteArray) : ((ofF P s).map Value.string).getD (.string ⟨#[]⟩) = .string ((ofF P s).getD s0) := by cases ofF P s <;> rfl
theorem CRel.below {w w' : World} {P : List (ByteArray × Ct)} {f : ByteArray → Option Value} (h : CRel w P f) (hb : Below w.heap.size w w') : CRel w' P f := fun s => ⟨(h s).1, fun p hp => by
  obtain ⟨A, c, h1, h2, h3⟩ := (h s).2 p hp
  exact ⟨A, c, h1, h2, h3.below hb⟩⟩
/-! ### an action's type -/
mutual
/-- An action's type over some symbols, and what is wrong first. -/
def typ (P : List (ByteArray × Ct)) (sy : List ByteArray) : Ac → ByteArray × Int
  | .mk x kids => if x.kind = 2 then (match fnd P x.name with
      | none => (s0, 211)
      | some p => if p.2.fields.length = kids.length then (if typs P sy kids p.2.fields = 0 then (p.1, 0) else (s0, typs P sy kids p.2.fields)) else (s0, 211))
    else if x.kind = 1 then (if sy.getD x.at_.toNat s0 = s0 then (s0, 210) else (sy.getD x.at_.toNat s0, 0)) else if x.kind = 3 then (tx, 0) else (s0, 0)
def typs (P : List (ByteArray × Ct)) (sy : List ByteArray) : List Ac → List ByteArray → Int
  | [] => fun _ => 0
  | a :: r => fun fs => if (typ P sy a).2 = 0 then (if (typ P sy a).1 = fs.getD 0 s0 then typs P sy r fs.tail else 210) else (typ P sy a).2
end
section
variable {P : List (ByteArray × Ct)} {sy : List ByteArray} {t : Ac} {p : ByteArray × Ct}
theorem typ_pick (h : t.x.kind = 1) : typ P sy t = if sy.getD t.x.at_.toNat s0 = s0 then (s0, 210) else (sy.getD t.x.at_.toNat s0, 0) := by
  cases t with
  | mk x kids => have h' : x.kind = 1 := h; rw [typ, if_neg (by omega), if_pos h']; rfl
theorem typ_text (h : t.x.kind = 3) : typ P sy t = (tx, 0) := by
  cases t with
  | mk x kids => have h' : x.kind = 3 := h; rw [typ, if_neg (by omega), if_neg (by omega), if_pos h']
theorem typ_none (h1 : t.x.kind ≠ 1) (h2 : t.x.kind ≠ 2) (h3 : t.x.kind ≠ 3) : typ P sy t = (s0, 0) := by
  cases t with
  | mk x kids =>
    have g1 : x.kind ≠ 1 := h1
    have g2 : x.kind ≠ 2 := h2
    have g3 : x.kind ≠ 3 := h3
    rw [typ, if_neg g2, if_neg g1, if_neg g3]
theorem typ_node_no (h : t.x.kind = 2) (hf : fnd P t.x.name = none) : typ P sy t = (s0, 211) := by
  cases t with
  | mk x kids =>
    have h' : x.kind = 2 := h
    have hf' : fnd P x.name = none := hf
    rw [typ, if_pos h', hf']
theorem typ_node (h : t.x.kind = 2) (hf : fnd P t.x.name = some p) : typ P sy t = if p.2.fields.length = t.kids.length then (if typs P sy t.kids p.2.fields = 0 then (p.1, 0) else (s0, typs P sy t.kids p.2.fields)) else (s0, 211) := by
  cases t with
  | mk x kids =>
    have h' : x.kind = 2 := h
    have hf' : fnd P x.name = some p := hf
    rw [typ, if_pos h', hf']
    rfl
theorem typs_nil (fs : List ByteArray) : typs P sy [] fs = 0 := by rw [typs]
theorem typs_cons (a : Ac) (r : List Ac) (fs : List ByteArray) : typs P sy (a :: r) fs = if (typ P sy a).2 = 0 then (if (typ P sy a).1 = fs.getD 0 s0 then typs P sy r fs.tail else 210) else (typ P sy a).2 := by rw [typs]
def typ1 (P : List (ByteArray × Ct)) (sy : List ByteArray) (a : Ac) (f : ByteArray) : Int := if (typ P sy a).2 = 0 then (if (typ P sy a).1 = f then 0 else 210) else (typ P sy a).2
theorem typs_succ : ∀ (ts : List Ac) (fs : List ByteArray) (i : Nat), i < ts.length → typs P sy (ts.take i) fs = 0 → typs P sy (ts.take (i + 1)) fs = typ1 P sy (ts.getD i ac0) (fs.getD i s0)
  | [], _, i, h, _ => by simp at h
  | t :: r, fs, 0, _, _ => by
    rw [List.take_succ_cons, List.take_zero, typs_cons, typs_nil]
    rfl
  | t :: r, fs, i + 1, h, h0 => by
    rw [List.take_succ_cons, typs_cons] at h0
    rw [List.take_succ_cons, typs_cons]
    have hl : fs.getD (i + 1) s0 = fs.tail.getD i s0 := by cases fs <;> rfl
    split at h0
    · split at h0
      · rename_i h1 h2
        rw [if_pos h1, if_pos h2, hl]
        exact typs_succ r fs.tail i (by simpa using h) h0
      · omega
    · omega
theorem typs_stop : ∀ (ts : List Ac) (fs : List ByteArray) (i : Nat), typs P sy (ts.take i) fs ≠ 0 → typs P sy ts fs = typs P sy (ts.take i) fs
  | [], _, i, h => by rw [List.take_nil]
  | t :: r, fs, 0, h => by rw [List.take_zero, typs_nil] at h; exact absurd rfl h
  | t :: r, fs, i + 1, h => by
    rw [List.take_succ_cons, typs_cons] at h ⊢
    rw [typs_cons]
    split
    · split
      · rename_i h1 h2
        rw [if_pos h1, if_pos h2] at h
        exact typs_stop r fs.tail i h
      · rfl
    · rfl
end
/-- A symbol's type. -/
def symT (g : Pl) (types : List ByteArray) (x : Int) : ByteArray := if x < g.kinds.length then tx else types.getD (x - g.kinds.length).toNat s0
def TyOk (l : List Dt) (s : ByteArray) : Prop := s = s0 ∨ FldOk l s
def prodE (g : Pl) (l : List Dt) (types : List ByteArray) (i : Nat) : Int := typ1 (flat l) ((g.prods.getD i pr0).right.map (symT g types)) (g.prods.getD i pr0).act (types.getD (g.prods.getD i pr0).left.toNat s0)
/-- All actions fit their types. -/
def ChkOk (g : Pl) (l : List Dt) (types : List ByteArray) : Prop := GOk g ∧ dataE l = 0 ∧ types.length = g.rules.length ∧ (∀ i, i < types.length → TyOk l (types.getD i s0)) ∧ ∀ i, i < g.prods.length → prodE g l types i = 0
theorem prodE_is {g : Pl} {l : List Dt} {types : List ByteArray} {i : Nat} : prodE g l types i = 0 ↔ (typ (flat l) ((g.prods.getD i pr0).right.map (symT g types)) (g.prods.getD i pr0).act).2 = 0 ∧ (typ (flat l) ((g.prods.getD i pr0).right.map (symT g types)) (g.prods.getD i pr0).act).1 = types.getD (g.prods.getD i pr0).left.toNat s0 := by
  unfold prodE typ1
  split
  · split
    · rename_i h1 h2; exact ⟨fun _ => ⟨h1, h2⟩, fun _ => rfl⟩
    · rename_i h1 h2; exact ⟨fun h => absurd h (by decide), fun h => absurd h.2 h2⟩
  · rename_i h1; exact ⟨fun h => absurd h h1, fun h => absurd h.1 h1⟩
/-! ### a node's type -/
mutual
/-- A node is a value of a type. -/
def fitN (P : List (ByteArray × Ct)) : Nd → ByteArray → Prop
  | .mk x kids => fun name => (x.kind = 0 ∧ name = s0 ∧ x.name = s0 ∧ x.tok = 0 ∧ kids.length = 0) ∨ (x.kind = 1 ∧ name = tx ∧ 0 ≤ x.tok ∧ x.name = s0 ∧ kids.length = 0) ∨ (x.kind = 2 ∧ name = tx ∧ x.tok = 0 ∧ kids.length = 0) ∨
    (x.kind = 3 ∧ ∃ p, fnd P x.name = some p ∧ p.1 = name ∧ x.tok = 0 ∧ p.2.fields.length = kids.length ∧ fitNs P kids p.2.fields)
def fitNs (P : List (ByteArray × Ct)) : List Nd → List ByteArray → Prop
  | [] => fun _ => True
  | t :: r => fun fs => fitN P t (fs.getD 0 s0) ∧ fitNs P r fs.tail
end
section
variable {P : List (ByteArray × Ct)} {t : Nd} {name : ByteArray}
theorem fitN_eq : fitN P t name ↔ (t.x.kind = 0 ∧ name = s0 ∧ t.x.name = s0 ∧ t.x.tok = 0 ∧ t.kids.length = 0) ∨ (t.x.kind = 1 ∧ name = tx ∧ 0 ≤ t.x.tok ∧ t.x.name = s0 ∧ t.kids.length = 0) ∨ (t.x.kind = 2 ∧ name = tx ∧ t.x.tok = 0 ∧ t.kids.length = 0) ∨
    (t.x.kind = 3 ∧ ∃ p, fnd P t.x.name = some p ∧ p.1 = name ∧ t.x.tok = 0 ∧ p.2.fields.length = t.kids.length ∧ fitNs P t.kids p.2.fields) := by
  cases t
  rw [fitN]
  rfl
theorem fit0 (h : t.x.kind = 0) : fitN P t name ↔ name = s0 ∧ t.x.name = s0 ∧ t.x.tok = 0 ∧ t.kids.length = 0 := by
  rw [fitN_eq]
  exact ⟨fun hh => by rcases hh with hh | hh | hh | hh <;> first | exact hh.2 | (have := hh.1; omega), fun hh => .inl ⟨h, hh⟩⟩
theorem fit1 (h : t.x.kind = 1) : fitN P t name ↔ name = tx ∧ 0 ≤ t.x.tok ∧ t.x.name = s0 ∧ t.kids.length = 0 := by
  rw [fitN_eq]
  exact ⟨fun hh => by rcases hh with hh | hh | hh | hh <;> first | (have := hh.1; omega) | exact hh.2, fun hh => .inr (.inl ⟨h, hh⟩)⟩
theorem fit2 (h : t.x.kind = 2) : fitN P t name ↔ name = tx ∧ t.x.tok = 0 ∧ t.kids.length = 0 := by
  rw [fitN_eq]
  exact ⟨fun hh => by rcases hh with hh | hh | hh | hh <;> first | (have := hh.1; omega) | exact hh.2, fun hh => .inr (.inr (.inl ⟨h, hh⟩))⟩
theorem fit3 (h : t.x.kind = 3) : fitN P t name ↔ ∃ p, fnd P t.x.name = some p ∧ p.1 = name ∧ t.x.tok = 0 ∧ p.2.fields.length = t.kids.length ∧ fitNs P t.kids p.2.fields := by
  rw [fitN_eq]
  exact ⟨fun hh => by rcases hh with hh | hh | hh | hh <;> first | (have := hh.1; omega) | exact hh.2, fun hh => .inr (.inr (.inr ⟨h, hh⟩))⟩
theorem fitx (h0 : t.x.kind ≠ 0) (h1 : t.x.kind ≠ 1) (h2 : t.x.kind ≠ 2) (h3 : t.x.kind ≠ 3) : ¬ fitN P t name := by
  rw [fitN_eq]
  rintro (hh | hh | hh | hh) <;> (have := hh.1; omega)
theorem fitNs_iff : ∀ (ts : List Nd) (fs : List ByteArray), fitNs P ts fs ↔ ∀ i, i < ts.length → fitN P (ts.getD i nd0) (fs.getD i s0)
  | [], fs => by rw [fitNs]; exact ⟨fun _ i hi => absurd hi (by simp), fun _ => trivial⟩
  | t :: r, fs => by
    rw [fitNs]
    have hl : ∀ i, fs.getD (i + 1) s0 = fs.tail.getD i s0 := fun i => by cases fs <;> rfl
    constructor
    · rintro ⟨h1, h2⟩ i hi
      cases i with
      | zero => exact h1
      | succ i =>
        rw [hl]
        exact (fitNs_iff r fs.tail).1 h2 i (by simpa using hi)
    · intro h
      refine ⟨h 0 (by simp), (fitNs_iff r fs.tail).2 fun i hi => ?_⟩
      have := h (i + 1) (by simpa using hi)
      rw [hl] at this
      exact this
theorem fit3_f {p : ByteArray × Ct} (h : t.x.kind = 3) (hp : fnd P t.x.name = some p) : fitN P t name ↔ p.1 = name ∧ t.x.tok = 0 ∧ p.2.fields.length = t.kids.length ∧ fitNs P t.kids p.2.fields := by
  rw [fit3 h]
  exact ⟨fun ⟨q, h1, h2⟩ => by rw [hp] at h1; cases h1; exact h2, fun h2 => ⟨p, hp, h2⟩⟩
theorem ofF_get {s : ByteArray} {p : ByteArray × Ct} (h : fnd P s = some p) : (ofF P s).getD s0 = p.1 := by unfold ofF; rw [h]; rfl
end
/-- Names and rows that are not too long. -/
def smallN (x : NdP) (k : Nat) : Prop := x.name.size ≤ 1099511627776 ∧ k ≤ 1099511627776
def TypedOk (l : List Dt) (t : Nd) (name : ByteArray) : Prop := dataE l = 0 ∧ fitN (flat l) t name
end Go.Proofs.YtgdemplcpcacaaaFx

/-! What a node's text is. -/
namespace Go.Proofs.YtgdemplcpcacaaaFx
open Go Go.RowKit
structure Tk where
  kind : Int
  from_ : Int
  to_ : Int
def tk0 : Tk := ⟨0, 0, 0⟩
def fTk : Fk Tk := ⟨3, fun x => [.int .i64 x.kind, .int .i64 x.from_, .int .i64 x.to_], fun _ => rfl, fun x u hu => by
  simp only [List.mem_cons, List.not_mem_nil, or_false] at hu
  rcases hu with rfl | rfl | rfl <;> rfl⟩
/-- A token stands in a row over a text. -/
def rowP (src : ByteArray) (toks : List Tk) (x : NdP) (_ : Nat) : Prop := x.kind = 1 → (0 ≤ x.tok ∧ x.tok < toks.length) ∧ (0 ≤ (toks.getD x.tok.toNat tk0).from_ ∧ (toks.getD x.tok.toNat tk0).from_ ≤ (toks.getD x.tok.toNat tk0).to_ ∧ (toks.getD x.tok.toNat tk0).to_ ≤ src.size)
def namP (x : NdP) (_ : Nat) : Prop := (0 ≤ x.kind ∧ x.kind ≤ 3) ∧ (x.kind = 3 → NameOk 32 x.name)
def lonP (toks : List Tk) (x : NdP) (_ : Nat) : Prop := (x.kind = 1 → (toks.getD x.tok.toNat tk0).to_ - (toks.getD x.tok.toNat tk0).from_ ≤ 4096) ∧ (x.kind = 2 → x.name.size ≤ 4096)
def tokS (src : ByteArray) (toks : List Tk) (x : NdP) : ByteArray := src.extract (toks.getD x.tok.toNat tk0).from_.toNat (toks.getD x.tok.toNat tk0).to_.toNat
mutual
/-- A node's text. -/
noncomputable def shw (src : ByteArray) (toks : List Tk) : Nd → List UInt8
  | .mk x kids => if x.kind = 0 then [45] else if x.kind = 1 then (qv (tokS src toks x)).data.toList else if x.kind = 2 then (qv x.name).data.toList else x.name.data.toList ++ shws src toks kids true ++ (if kids.length = 0 then [] else [41])
noncomputable def shws (src : ByteArray) (toks : List Tk) : List Nd → Bool → List UInt8
  | [] => fun _ => []
  | t :: r => fun b => (if b then [40] else [44, 32]) ++ shw src toks t ++ shws src toks r false
end
section
variable {src : ByteArray} {toks : List Tk} {t : Nd}
theorem shw_eq (t : Nd) : shw src toks t = if t.x.kind = 0 then [45] else if t.x.kind = 1 then (qv (tokS src toks t.x)).data.toList else if t.x.kind = 2 then (qv t.x.name).data.toList else t.x.name.data.toList ++ shws src toks t.kids true ++ (if t.kids.length = 0 then [] else [41]) := by
  cases t
  rw [shw]
  rfl
theorem shw0 (h : t.x.kind = 0) : shw src toks t = [45] := by rw [shw_eq, if_pos h]
theorem shw1 (h : t.x.kind = 1) : shw src toks t = (qv (tokS src toks t.x)).data.toList := by rw [shw_eq, if_neg (by omega), if_pos h]
theorem shw2 (h : t.x.kind = 2) : shw src toks t = (qv t.x.name).data.toList := by rw [shw_eq, if_neg (by omega), if_neg (by omega), if_pos h]
theorem shw3 (h : t.x.kind = 3) : shw src toks t = t.x.name.data.toList ++ shws src toks t.kids true ++ (if t.kids.length = 0 then [] else [41]) := by rw [shw_eq, if_neg (by omega), if_neg (by omega), if_neg (by omega)]
theorem shws_nil (b : Bool) : shws src toks [] b = [] := by rw [shws]
theorem shws_cons (t : Nd) (r : List Nd) (b : Bool) : shws src toks (t :: r) b = (if b then [40] else [44, 32]) ++ shw src toks t ++ shws src toks r false := by rw [shws]
def sepN (i : Nat) : List UInt8 := if i = 0 then [40] else [44, 32]
theorem shws_succF : ∀ (ts : List Nd) (i : Nat), i < ts.length → shws src toks (ts.take (i + 1)) false = shws src toks (ts.take i) false ++ [44, 32] ++ shw src toks (ts.getD i nd0)
  | [], i, h => by simp at h
  | t :: r, 0, _ => by
    rw [List.take_succ_cons, List.take_zero, shws_cons, shws_nil]
    simp [shws_nil]
  | t :: r, i + 1, h => by
    rw [List.take_succ_cons, List.take_succ_cons, shws_cons, shws_cons, shws_succF r i (by simpa using h), List.getD_cons_succ]
    simp only [List.append_assoc]
theorem shws_succ : ∀ (ts : List Nd) (i : Nat), i < ts.length → shws src toks (ts.take (i + 1)) true = shws src toks (ts.take i) true ++ sepN i ++ shw src toks (ts.getD i nd0)
  | [], i, h => by simp at h
  | t :: r, 0, _ => by
    rw [List.take_succ_cons, List.take_zero, shws_cons, shws_nil]
    simp [shws_nil, sepN]
  | t :: r, i + 1, h => by
    rw [List.take_succ_cons, List.take_succ_cons, shws_cons, shws_cons, shws_succF r i (by simpa using h), List.getD_cons_succ]
    simp only [List.append_assoc]
    rfl
theorem shws_take : ∀ (ts : List Nd) (i : Nat) (b : Bool), (shws src toks (ts.take i) b).length ≤ (shws src toks ts b).length
  | [], i, b => by rw [List.take_nil]; exact Nat.le_refl _
  | t :: r, 0, b => by rw [List.take_zero, shws_nil]; exact Nat.zero_le _
  | t :: r, i + 1, b => by
    have := shws_take r i false
    rw [List.take_succ_cons, shws_cons, shws_cons, List.length_append, List.length_append (bs := shws src toks r false)]
    omega
theorem qb_len (s : ByteArray) : ∀ (k i : Nat), s.size - i ≤ k → (qb s i).length ≤ 4 * (s.size - i) := by
  intro k
  induction k with
  | zero =>
    intro i h
    rw [qb_end (by omega)]
    exact Nat.zero_le _
  | succ k ih =>
    intro i h
    rcases Nat.lt_or_ge i s.size with hi | hi
    · obtain ⟨h1, h2, _⟩ := nxt_fit hi
      have h3 := qpart_len hi
      have h4 := ih (i + (nxt s i).2.1) (by omega)
      rw [qb_step hi, List.length_append]
      omega
    · rw [qb_end (by omega)]
      exact Nat.zero_le _
theorem qv_len (s : ByteArray) : (qv s).size ≤ 16386 := by
  unfold qv
  split
  · rename_i h
    have h1 := qb_len s s.size 0 (by omega)
    have h2 : (⟨(34 :: qb s 0 ++ [34]).toArray⟩ : ByteArray).size = (34 :: qb s 0 ++ [34]).length := rfl
    rw [h2]
    simp only [List.length_append, List.length_cons, List.length_nil]
    omega
  · exact Nat.zero_le _
theorem qv_pos {s : ByteArray} (h : s.size ≤ 4096) : 0 < (qv s).size := by
  unfold qv
  rw [if_pos h]
  exact Nat.succ_pos _
mutual
theorem shw_len : ∀ t : Nd, t.All namP → (shw src toks t).length + 2 ≤ 20002 * t.cnt
  | .mk x kids, h => by
    obtain ⟨h1, h2⟩ := (Tr.All_eq (.mk x kids)).1 h
    have h1' : namP x kids.length := h1
    have hk := shws_len kids true h2
    have hq : ∀ s : ByteArray, (qv s).data.toList.length ≤ 16386 := fun s => by rw [Array.length_toList]; exact qv_len s
    rw [shw, Tr.cnt]
    split
    · simp only [List.length_cons, List.length_nil]; omega
    · split
      · have := hq (tokS src toks x); omega
      · split
        · have := hq x.name; omega
        · have h3 : x.name.size ≤ 32 := (h1'.2 (by have := h1'.1; omega)).2.1
          have h4 : x.name.data.toList.length ≤ 32 := by rw [Array.length_toList]; exact h3
          rw [List.length_append, List.length_append]
          have h5 : (if kids.length = 0 then ([] : List UInt8) else [41]).length ≤ 1 := by split <;> simp
          omega
theorem shws_len : ∀ (ts : List Nd) (b : Bool), Tr.Alls namP ts → (shws src toks ts b).length ≤ 20002 * Tr.cnts ts
  | [], b, _ => by rw [shws_nil]; exact Nat.zero_le _
  | t :: r, b, h => by
    rw [Tr.Alls] at h
    have h1 := shw_len t h.1
    have h2 := shws_len r false h.2
    have h3 := Tr.cnt_eq t
    rw [shws_cons, List.length_append, List.length_append, Tr.cnts]
    have h5 : (if b = true then ([40] : List UInt8) else [44, 32]).length ≤ 2 := by split <;> simp
    omega
end
end
/-- A node's text, and what is wrong with it. -/
noncomputable def txE (src : ByteArray) (toks : List Tk) (t : Nd) : Int := if dec (t.All (rowP src toks)) then (if dec (t.All namP) then (if dec (t.All (lonP toks)) then 0 else 3) else 1) else 71
noncomputable def txS (src : ByteArray) (toks : List Tk) (t : Nd) : ByteArray := if txE src toks t = 0 then ⟨(shw src toks t).toArray⟩ else ⟨#[]⟩
section
variable {src : ByteArray} {toks : List Tk} {t : Nd}
theorem txE_row (h : ¬ t.All (rowP src toks)) : txE src toks t = 71 ∧ txS src toks t = ⟨#[]⟩ := by
  have e : txE src toks t = 71 := by rw [txE, dec_f h]; rfl
  exact ⟨e, by rw [txS, e]; rfl⟩
theorem txE_nam (h : t.All (rowP src toks)) (h2 : ¬ t.All namP) : txE src toks t = 1 ∧ txS src toks t = ⟨#[]⟩ := by
  have e : txE src toks t = 1 := by rw [txE, dec_t h, dec_f h2]; rfl
  exact ⟨e, by rw [txS, e]; rfl⟩
theorem txE_lon (h : t.All (rowP src toks)) (h2 : t.All namP) (h3 : ¬ t.All (lonP toks)) : txE src toks t = 3 ∧ txS src toks t = ⟨#[]⟩ := by
  have e : txE src toks t = 3 := by rw [txE, dec_t h, dec_t h2, dec_f h3]; rfl
  exact ⟨e, by rw [txS, e]; rfl⟩
theorem txE_ok (h : t.All (rowP src toks)) (h2 : t.All namP) (h3 : t.All (lonP toks)) : txE src toks t = 0 ∧ txS src toks t = ⟨(shw src toks t).toArray⟩ := by
  have e : txE src toks t = 0 := by rw [txE, dec_t h, dec_t h2, dec_t h3]; rfl
  exact ⟨e, by rw [txS, e]; rfl⟩
end
end Go.Proofs.YtgdemplcpcacaaaFx

/-! Trees of the call's own: each row of kids lies apart from all others. -/
namespace Go.Proofs.YtgdemplcpcacaaaFx
open Go Go.RowKit
/-- The cells of a row of trees, whose rows of kids are vs. -/
def kcs {α : Type} (f : Fk α) : List (Tr α) → List Value → List Value
  | t :: r, v :: vs => f.enc t.x ++ v :: kcs f r vs
  | _, _ => []
mutual
def Tr.OC {α : Type} (f : Fk α) (e : TypeId) : Tr α → Value → Ch
  | .mk x kids => fun v => { p := fun w S => ∃ vs : List Value, vs.length = kids.length ∧ HL (Raw e (f.sz + 1) v kids.length (kcs f kids vs) :: Tr.OCs f e kids vs) w S, st := fun h hp => Exists.elim hp fun vs hq => ⟨vs, hq.1, HL.st h hq.2⟩ }
def Tr.OCs {α : Type} (f : Fk α) (e : TypeId) : List (Tr α) → List Value → List Ch
  | [] => fun _ => []
  | t :: r => fun l => match l with
    | [] => []
    | v :: vs => Tr.OC f e t v :: Tr.OCs f e r vs
end
/-- A row of trees of the call's own. -/
def ORow {α : Type} (f : Fk α) (e : TypeId) (v : Value) (ts : List (Tr α)) : Ch where
  p := fun w S => ∃ vs : List Value, vs.length = ts.length ∧ HL (Raw e (f.sz + 1) v ts.length (kcs f ts vs) :: Tr.OCs f e ts vs) w S
  st := fun h ⟨vs, hl, hp⟩ => ⟨vs, hl, HL.st h hp⟩
section
variable {α : Type} {f : Fk α} {e : TypeId} {v u : Value} {ts : List (Tr α)} {t : Tr α} {W0 w : World} {L L1 L2 : List Ch} {n c : Nat} {A : Option Addr}
theorem OCs_nil (vs : List Value) : Tr.OCs f e [] vs = [] := by rw [Tr.OCs]
theorem OCs_cons (t : Tr α) (r : List (Tr α)) (v : Value) (vs : List Value) : Tr.OCs f e (t :: r) (v :: vs) = Tr.OC f e t v :: Tr.OCs f e r vs := by rw [Tr.OCs]
theorem Tr.OC_eq (t : Tr α) (v : Value) : Tr.OC f e t v = ORow f e v t.kids := by cases t; rw [Tr.OC]; rfl
theorem kcs_app : ∀ (ts ts' : List (Tr α)) (vs vs' : List Value), vs.length = ts.length → kcs f (ts ++ ts') (vs ++ vs') = kcs f ts vs ++ kcs f ts' vs'
  | [], _, [], _, _ => rfl
  | [], _, _ :: _, _, h => by simp at h
  | _ :: _, _, [], _, h => by simp at h
  | t :: r, ts', v :: vs, vs', h => by
    show f.enc t.x ++ v :: kcs f (r ++ ts') (vs ++ vs') = (f.enc t.x ++ v :: kcs f r vs) ++ kcs f ts' vs'
    rw [kcs_app r ts' vs vs' (by simpa using h), List.append_assoc]
    rfl
theorem OCs_app : ∀ (ts ts' : List (Tr α)) (vs vs' : List Value), vs.length = ts.length → Tr.OCs f e (ts ++ ts') (vs ++ vs') = Tr.OCs f e ts vs ++ Tr.OCs f e ts' vs'
  | [], _, [], _, _ => by rw [OCs_nil]; rfl
  | [], _, _ :: _, _, h => by simp at h
  | _ :: _, _, [], _, h => by simp at h
  | t :: r, ts', v :: vs, vs', h => by
    rw [List.cons_append, List.cons_append, OCs_cons, OCs_cons, OCs_app r ts' vs vs' (by simpa using h)]
    rfl
theorem kcs_get : ∀ (ts : List (Tr α)) (vs : List Value), vs.length = ts.length → ∀ (j : Nat) (t : Tr α), ts[j]? = some t → ∃ v, vs[j]? = some v ∧ ∀ i u, (f.enc t.x ++ [v])[i]? = some u → (kcs f ts vs)[j * (f.sz + 1) + i]? = some u
  | [], _, _, j, t, h => by simp at h
  | _ :: _, [], h, _, _, _ => by simp at h
  | t :: r, v :: vs, h, 0, t', ht => by
    simp only [List.getElem?_cons_zero, Option.some.injEq] at ht
    subst ht
    refine ⟨v, rfl, fun i u hu => ?_⟩
    have hi := (List.getElem?_eq_some_iff.1 hu).1
    rw [Nat.zero_mul, Nat.zero_add]
    show (f.enc t.x ++ v :: kcs f r vs)[i]? = _
    rw [show f.enc t.x ++ v :: kcs f r vs = (f.enc t.x ++ [v]) ++ kcs f r vs by simp, List.getElem?_append_left hi]
    exact hu
  | t :: r, v :: vs, h, j + 1, t', ht => by
    obtain ⟨v', h1, h2⟩ := kcs_get r vs (by simpa using h) j t' (by simpa using ht)
    refine ⟨v', by simpa using h1, fun i u hu => ?_⟩
    show (f.enc t.x ++ v :: kcs f r vs)[(j + 1) * (f.sz + 1) + i]? = _
    have hl : (f.enc t.x ++ [v]).length = f.sz + 1 := by rw [List.length_append, f.len]; rfl
    rw [show f.enc t.x ++ v :: kcs f r vs = (f.enc t.x ++ [v]) ++ kcs f r vs by simp, List.getElem?_append_right (by rw [hl, Nat.add_mul]; omega), hl, show (j + 1) * (f.sz + 1) + i - (f.sz + 1) = j * (f.sz + 1) + i by rw [Nat.add_mul]; omega]
    exact h2 i u hu
theorem OCs_get {S : Nat → Prop} : ∀ (ts : List (Tr α)) (vs : List Value) (S : Nat → Prop), HL (Tr.OCs f e ts vs) w S → ∀ (j : Nat) (t : Tr α) (v : Value), ts[j]? = some t → vs[j]? = some v → ∃ S', (∀ k, S' k → S k) ∧ (ORow f e v t.kids).p w S'
  | [], _, _, _, j, t, v, h, _ => by simp at h
  | _ :: _, [], _, _, _, _, _, _, h => by simp at h
  | t :: r, u :: vs, S, hl, 0, t', v', ht, hv => by
    simp only [List.getElem?_cons_zero, Option.some.injEq] at ht hv
    subst ht hv
    rw [OCs_cons] at hl
    obtain ⟨S1, S2, h1, _, _, h4, _⟩ := hl
    rw [Tr.OC_eq] at h4
    exact ⟨S1, h1, h4⟩
  | t :: r, u :: vs, S, hl, j + 1, t', v', ht, hv => by
    rw [OCs_cons] at hl
    obtain ⟨S1, S2, _, h2, _, _, h5⟩ := hl
    obtain ⟨S', h6, h7⟩ := OCs_get (S := S2) r vs S2 h5 j t' v' (by simpa using ht) (by simpa using hv)
    exact ⟨S', fun k hk => h2 k (h6 k hk), h7⟩
/-- A row of trees of the call's own, as it is known. -/
theorem ORow.known : ∀ (t : Tr α) (v : Value) (S : Nat → Prop), (ORow f e v t.kids).p w S → ∃ A c, v = .slice A t.kids.length c ∧ t.kids.length ≤ c ∧ RdC (krTr f) (CC w no S w) A t.kids := Tr.ind fun x kids ih v S hp => by
  obtain ⟨vs, hv, S1, S2, h1, h2, h3, h4, h5⟩ := hp
  obtain ⟨A, c, rfl, hn, hA, hc⟩ := own_slice h4.2
  refine ⟨A, c, rfl, hn, hA, fun j t ht => ?_⟩
  have ht' : kids[j]? = some t := ht
  obtain ⟨u, g1, g2⟩ := kcs_get (f := f) kids vs hv j t ht'
  obtain ⟨S', g3, g4⟩ := OCs_get (S := S2) kids vs S2 h5 j t u ht' g1
  obtain ⟨B, c', rfl, g5, g6⟩ := ih t (List.mem_of_getElem? ht') u S' g4
  refine ⟨f.enc t.x ++ [.slice B t.kids.length c'], ?_, fun i w' hu => .inr ⟨h1 _ ?_, hc _ _ (g2 i w' hu)⟩⟩
  · cases t with
    | mk y k2 => exact Tr.R.mk g5 (g6.mono fun p v => CC.sub (fun k hk => h2 k (g3 k hk)) p v)
  · have hj : 0 < kids.length := by have := (List.getElem?_eq_some_iff.1 ht').1; omega
    have hb := h4.1 (adr A).block (by rw [hA hj]; rfl)
    have : ((adr A).add (j * (krTr f).sz + i)).block = (adr A).block := by unfold Addr.add; split <;> rfl
    rw [this]
    exact hb
theorem ORow.known' {S : Nat → Prop} (x : α) (h : (ORow f e v ts).p w S) : ∃ A c, v = .slice A ts.length c ∧ ts.length ≤ c ∧ RdC (krTr f) (CC w no S w) A ts := ORow.known (f := f) (.mk x ts) v S h
theorem Holds.oForm (x : α) (H : Holds W0 L w) (U : Upd L (ORow f e v ts) (ORow f e v ts) L) : ∃ A c, v = .slice A ts.length c ∧ ts.length ≤ c := by
  obtain ⟨S, _, h⟩ := H.get U
  obtain ⟨A, c, h1, h2, _⟩ := ORow.known' x h
  exact ⟨A, c, h1, h2⟩
theorem Holds.oRd (x : α) (H : Holds W0 L w) (U : Upd L (ORow f e (.slice A n c) ts) (ORow f e (.slice A n c) ts) L) : Rd (kTr f) w A ts := by
  obtain ⟨S, _, h⟩ := H.get U
  obtain ⟨A', c', he, _, h3⟩ := ORow.known' x h
  injection he with e1 _ _
  subst e1
  exact (h3.mono fun p v hc => hc.elim (fun h => h.1.elim) (fun h => h.2)).tr
theorem Holds.oNil (f : Fk α) (e : TypeId) (H : Holds W0 L w) : Holds W0 (ORow f e (.slice none 0 0) [] :: L) w := by
  have h2 : Holds W0 ((Raw e (f.sz + 1) (.slice none 0 0) 0 [] :: Tr.OCs f e [] []) ++ L) w := by
    rw [OCs_nil]
    exact H.nilrow e (f.sz + 1)
  exact h2.closed fun S h => ⟨[], rfl, h⟩
end
section
variable {α : Type} {f : Fk α} {W0 w : World} {P : Program} {n : Nat} {Q : Post} {l : Fr} {L L1 L2 : List Ch} {ops : Array Oper} {rest : List Oper} {dd : Nat} {x sx : Operand} {ty t e : TypeId} {pos : String} {af : Array Edge} {v u : Value} {ts : List (Tr α)} {t' : Tr α}
/-- append(row, tree). -/
theorem wl_appO {z : Value} {bytes b : Nat} (H : Holds W0 L w) (D1 : Del L (ORow f e u t'.kids) L1) (D2 : Del L1 (ORow f e v ts) L2) (hcell : ∀ j q, (f.enc t'.x ++ [u])[j]? = some q → w.cell? ((⟨b, 0, none⟩ : Addr).add j) = some q) (hn : Nat.ble (dd + 1) n = true)
    (ht : P.underlying t = some (.slice e)) (hi : (P.info? e).map (fun i => (i.zero, i.size, i.bytes)) = some (some z, f.sz + 1, bytes)) (hz : z.cells.size = f.sz + 1)
    (hs : ev l sx = some v) (hx : ev l x = some (.slice (some ⟨b, 0, none⟩) 1 1)) (hb : (ts.length + 1) * bytes ≤ 140737488355328) (hb0 : 0 < bytes)
    (h : ∀ A c w', Holds W0 (ORow f e (.slice A (ts ++ [t']).length c) (ts ++ [t']) :: L2) w' → w.heap.size ≤ w'.heap.size → wl P n ops rest Q ((dd, .slice A (ts ++ [t']).length c) :: l) w') : wl P n ops (⟨some dd, .call { callee := .builtin .append, args := #[sx, x], argTypes := #[t, t] }, ty, pos, af, none⟩ :: rest) Q l w := by
  have H1 : Holds W0 (ORow f e v ts :: ORow f e u t'.kids :: L2) w := (H.turn D1).turn (.there _ D2)
  have hu1 : u.oneCell' = true := by
    obtain ⟨A, c, rfl, _⟩ := H1.oForm t'.x (v := u) (ts := t'.kids) (.there _ (.here _ _ _))
    rfl
  obtain ⟨ho, S1, S2, a1, a2, a3, ⟨vs, hv, hp⟩, a5⟩ := H1
  have H2 : Holds W0 ((Raw e (f.sz + 1) v ts.length (kcs f ts vs) :: Tr.OCs f e ts vs) ++ ORow f e u t'.kids :: L2) w := ⟨ho, HL.app a1 a2 a3 hp a5⟩
  refine wl_append (L' := fun v' => (Raw e (f.sz + 1) v' (ts.length + 1) (kcs f ts vs ++ (f.enc t'.x ++ [u])) :: Tr.OCs f e ts vs) ++ ORow f e u t'.kids :: L2) (cs := kcs f ts vs) (news := f.enc t'.x ++ [u]) H2 (fun v' => .here _ _ _) hn ht hi hz (by omega) hs hx (fun _ => rfl) (by rw [List.length_append, f.len, Nat.one_mul]; rfl) hcell (fun q hq => ?_) hb hb0 (fun v' w' H' hsz => ?_)
  · rcases List.mem_append.1 hq with h1 | h1
    · exact f.one _ q h1
    · rw [List.mem_singleton.1 h1]; exact hu1
  · have e1 : kcs f (ts ++ [t']) (vs ++ [u]) = kcs f ts vs ++ (f.enc t'.x ++ [u]) := by rw [kcs_app _ _ _ _ hv]; rfl
    have e2 : Tr.OCs f e (ts ++ [t']) (vs ++ [u]) = Tr.OCs f e ts vs ++ [ORow f e u t'.kids] := by
      rw [OCs_app _ _ _ _ hv, OCs_cons, Tr.OC_eq, OCs_nil]
    have h3 : Holds W0 (ORow f e v' (ts ++ [t']) :: L2) w' := by
      refine Holds.closed (Ls := Raw e (f.sz + 1) v' (ts ++ [t']).length (kcs f (ts ++ [t']) (vs ++ [u])) :: Tr.OCs f e (ts ++ [t']) (vs ++ [u])) ?_ (fun S h => ⟨vs ++ [u], by simp [hv], h⟩)
      rw [e1, e2, show (ts ++ [t']).length = ts.length + 1 by simp]
      have : (Raw e (f.sz + 1) v' (ts.length + 1) (kcs f ts vs ++ (f.enc t'.x ++ [u])) :: (Tr.OCs f e ts vs ++ [ORow f e u t'.kids])) ++ L2 = (Raw e (f.sz + 1) v' (ts.length + 1) (kcs f ts vs ++ (f.enc t'.x ++ [u])) :: Tr.OCs f e ts vs) ++ ORow f e u t'.kids :: L2 := by simp
      rw [this]
      exact H'
    obtain ⟨A, c, rfl, _⟩ := h3.oForm t'.x (.here _ _ _)
    exact h A c w' h3 hsz
end
end Go.Proofs.YtgdemplcpcacaaaFx

/-! The grammar of one production that is asked before anything is. -/
namespace Go.Proofs.YtgdemplcpcacaaaFx
open Go Go.RowKit
def gAct : Ac := .mk ⟨2, 0, ⟨#[78]⟩⟩ [.mk ⟨1, 0, ⟨#[]⟩⟩ []]
def gG : Pl := ⟨[⟨#[101, 110, 100]⟩, ⟨#[101, 114, 114, 111, 114]⟩, ⟨#[110]⟩], [⟨0, 0⟩, ⟨0, 0⟩, ⟨0, 0⟩], [⟨#[101]⟩], [⟨0, [2], 0, gAct⟩], 0⟩
def gD : Dv := .mk ⟨0, 0⟩ [.mk ⟨-1, 0⟩ []]
def gL : List Dt := [⟨⟨#[69]⟩, [⟨⟨#[78]⟩, [tx]⟩]⟩]
def gTy : List ByteArray := [⟨#[69]⟩]
def gN : Nd := .mk ⟨3, ⟨#[78]⟩, 0⟩ [.mk ⟨1, ⟨#[]⟩, 0⟩ []]
def gTk : List Tk := [⟨2, 0, 1⟩]
def gSrc : ByteArray := ⟨#[55]⟩
theorem gG_okk : gG.ok := ⟨by decide, by decide, by decide, by decide, by decide, by decide, by decide, by decide⟩
theorem gG_ok : GOk gG := ⟨⟨by unfold KindsOk NameOk Dist chOk; decide, rfl, by unfold PrecsOk precOk; decide, by unfold RulesOk Dist; decide⟩, ⟨by decide, by decide⟩, fun i hi => by
  have : i = 0 := by have : gG.prods.length = 1 := rfl; omega
  subst this
  refine ⟨by decide, by decide, ?_, by decide⟩
  refine (Tr.All_eq _).2 ⟨.inr (.inr (.inr ⟨rfl, rfl, by decide, by decide⟩)), (Tr.Alls_iff _).2 fun t ht => ?_⟩
  obtain rfl : t = .mk ⟨1, 0, ⟨#[]⟩⟩ [] := List.mem_singleton.1 ht
  exact (Tr.All_eq _).2 ⟨.inr (.inl ⟨rfl, rfl, by decide, rfl⟩), (Tr.Alls_iff _).2 fun t ht => absurd ht (List.not_mem_nil)⟩⟩
theorem gD_ok : DrvOk gG gD [2] := ⟨gG_ok, by decide, by
  have h1 : shp gG [2] (.mk ⟨-1, 0⟩ []) 2 0 = some 1 := shp_leaf (by decide) ⟨⟨⟨rfl, rfl⟩, rfl⟩, by decide, rfl⟩
  show shp gG [2] gD 3 0 = some 1
  rw [shp_node (by decide) (show nodeFit gG gD.x gD.kids.length 3 from ⟨⟨by decide, rfl⟩, rfl, rfl⟩)]
  show shps gG [2] [.mk ⟨-1, 0⟩ []] [2] 0 = some 1
  rw [shps_cons]
  show (shp gG [2] (.mk ⟨-1, 0⟩ []) 2 0).bind (shps gG [2] [] []) = some 1
  rw [h1]
  exact shps_nil (g := gG) (row := [2]) [] 1⟩
theorem gV : valD gG gD = gN := by rfl
theorem gE : valE gG gD [2] = 0 ∧ valR gG gD [2] = gN := by
  obtain ⟨h1, h2⟩ := valE_ok gD_ok (by rw [gV]; decide)
  exact ⟨h1, h2.trans gV⟩
theorem gL_ok : DOk gL := ⟨by decide, by decide, by decide, by decide⟩
theorem gL_e : dataE gL = 0 := dataE_t ⟨fun i hi => by
    have : i = 0 := by have : gL.length = 1 := rfl; omega
    subst this
    exact ⟨by unfold NameOk chOk; decide, by decide, List.not_mem_nil⟩, fun j hj => by
    have : j = 0 := by have : (flat gL).length = 1 := rfl; omega
    subst this
    exact ⟨by unfold NameOk chOk; decide, rfl⟩⟩ fun p hp f hf => by
  obtain rfl : p = (⟨#[69]⟩, ⟨⟨#[78]⟩, [tx]⟩) := List.mem_singleton.1 hp
  exact .inl (List.mem_singleton.1 hf)
theorem gC : ChkOk gG gL gTy := ⟨gG_ok, gL_e, rfl, fun i hi => by
    have : i = 0 := by have : gTy.length = 1 := rfl; omega
    subst this
    exact .inr (.inr (List.mem_singleton.2 rfl)), fun i hi => by
    have : i = 0 := by have : gG.prods.length = 1 := rfl; omega
    subst this
    decide⟩
theorem gN_small : gN.All smallN := by
  refine (Tr.All_eq _).2 ⟨⟨by decide, by decide⟩, (Tr.Alls_iff _).2 fun t ht => ?_⟩
  obtain rfl : t = .mk ⟨1, ⟨#[]⟩, 0⟩ [] := List.mem_singleton.1 ht
  exact (Tr.All_eq _).2 ⟨⟨by decide, by decide⟩, (Tr.Alls_iff _).2 fun t ht => absurd ht (List.not_mem_nil)⟩
theorem gF : fitN (flat gL) gN ⟨#[69]⟩ := (fit3 rfl).2 ⟨(⟨#[69]⟩, ⟨⟨#[78]⟩, [tx]⟩), rfl, rfl, rfl, rfl, (fitNs_iff _ _).2 fun i hi => by
  have : i = 0 := by have : gN.kids.length = 1 := rfl; omega
  subst this
  exact (fit1 rfl).2 ⟨rfl, by decide, rfl, rfl⟩⟩
theorem gQ : qv gSrc = ⟨#[34, 55, 34]⟩ := by
  have hd : Utf8.decode (gSrc.extract 0 gSrc.size) 0 = (55, 1) := by decide
  have hn : nxt gSrc 0 = (55, 1, true) := by
    unfold nxt
    rw [hd]
    rfl
  rw [qv, if_pos (by decide), qb_step (by decide), hn, qb_end (by decide)]
  unfold qpart
  rw [hn]
  decide
theorem gTs : tokS gSrc gTk ⟨1, ⟨#[]⟩, 0⟩ = gSrc := by decide
theorem gS : shw gSrc gTk gN = [78, 40, 34, 55, 34, 41] := by
  rw [shw3 rfl]
  show [78] ++ shws gSrc gTk [.mk ⟨1, ⟨#[]⟩, 0⟩ []] true ++ _ = _
  rw [shws_cons, shws_nil, shw1 rfl]
  show [78] ++ ([40] ++ (qv (tokS gSrc gTk ⟨1, ⟨#[]⟩, 0⟩)).data.toList ++ []) ++ [41] = _
  rw [gTs, gQ]
  rfl
theorem gX : txE gSrc gTk gN = 0 ∧ txS gSrc gTk gN = ⟨#[78, 40, 34, 55, 34, 41]⟩ := by
  have h1 : ∀ p : NdP → Nat → Prop, p ⟨3, ⟨#[78]⟩, 0⟩ 1 → p ⟨1, ⟨#[]⟩, 0⟩ 0 → gN.All p := fun p h1 h2 => by
    refine (Tr.All_eq _).2 ⟨h1, (Tr.Alls_iff _).2 fun t ht => ?_⟩
    obtain rfl : t = .mk ⟨1, ⟨#[]⟩, 0⟩ [] := List.mem_singleton.1 ht
    exact (Tr.All_eq _).2 ⟨h2, (Tr.Alls_iff _).2 fun t ht => absurd ht (List.not_mem_nil)⟩
  obtain ⟨e1, e2⟩ := txE_ok (src := gSrc) (toks := gTk) (t := gN) (h1 _ (fun h => absurd h (by decide)) (fun _ => by decide)) (h1 _ ⟨by decide, fun _ => by unfold NameOk chOk; decide⟩ ⟨by decide, fun h => absurd h (by decide)⟩) (h1 _ ⟨fun h => absurd h (by decide), fun h => absurd h (by decide)⟩ ⟨fun _ => by decide, fun _ => by decide⟩)
  exact ⟨e1, by rw [e2, gS]⟩
section
variable {W0 w : World} {L : List Ch} {b b2 b9 b11 b12 b14 b17 b19 b21 e e1 e2 e3 e4 e5 e6 : Nat} {A10 : Option Addr} {cs : List Value}
theorem rd_sole {α : Type} {d : Kn α} {x : α} (H : Holds W0 L w) (U : Upd L (Blk b e cs) (Blk b e cs) L) (h : d.K w x cs) : Rd d w (some ⟨b, 0, none⟩) [x] := ⟨fun _ => rfl, fun j y hy => by
  cases j with
  | zero =>
    simp only [List.getElem?_cons_zero, Option.some.injEq] at hy
    subst hy
    exact ⟨cs, h, fun i u hu => by rw [Nat.zero_mul, Nat.zero_add]; exact H.ats U i u hu⟩
  | succ j => simp at hy⟩
theorem rd_blks {α : Type} {f : Fk α} {xs : List α} (H : Holds W0 L w) (U : Upd L (Blk b e cs) (Blk b e cs) L) (hcs : cs = xs.flatMap f.enc) : Rd f.kn w (some ⟨b, 0, none⟩) xs :=
  ⟨fun _ => rfl, fun j x hx => ⟨f.enc x, rfl, fun i u hu => H.ats U _ u (by rw [hcs]; exact flat_get f xs j x hx i u hu)⟩⟩
theorem gG_rd (H : Holds W0 L w) (u9 : Upd L (Blk b9 e [.string ⟨#[101, 110, 100]⟩, .string ⟨#[101, 114, 114, 111, 114]⟩, .string ⟨#[110]⟩]) (Blk b9 e [.string ⟨#[101, 110, 100]⟩, .string ⟨#[101, 114, 114, 111, 114]⟩, .string ⟨#[110]⟩]) L)
    (u10 : Upd L (Row fMv e1 (.slice A10 3 3) [mv0, mv0, mv0]) (Row fMv e1 (.slice A10 3 3) [mv0, mv0, mv0]) L) (u11 : Upd L (Blk b11 e2 [.string ⟨#[101]⟩]) (Blk b11 e2 [.string ⟨#[101]⟩]) L) (u12 : Upd L (Blk b12 e3 [.int .i64 2]) (Blk b12 e3 [.int .i64 2]) L)
    (u14 : Upd L (Blk b14 e4 [.int .i64 1, .int .i64 0, .string ⟨#[]⟩, .slice none 0 0]) (Blk b14 e4 [.int .i64 1, .int .i64 0, .string ⟨#[]⟩, .slice none 0 0]) L)
    (u17 : Upd L (Blk b17 e5 [.int .i64 0, .slice (some ⟨b12, 0, none⟩) 1 1, .int .i64 0, .int .i64 2, .int .i64 0, .string ⟨#[78]⟩, .slice (some ⟨b14, 0, none⟩) 1 1]) (Blk b17 e5 [.int .i64 0, .slice (some ⟨b12, 0, none⟩) 1 1, .int .i64 0, .int .i64 2, .int .i64 0, .string ⟨#[78]⟩, .slice (some ⟨b14, 0, none⟩) 1 1]) L) :
    gG.rd w ⟨some ⟨b9, 0, none⟩, 3, A10, 3, some ⟨b11, 0, none⟩, 1, some ⟨b17, 0, none⟩, 1⟩ :=
  ⟨rd_blks (f := fStr) H u9 rfl, H.rrd u10, rd_blks (f := fStr) H u11 rfl, rd_sole H u17 ⟨some ⟨b12, 0, none⟩, 1, some ⟨b14, 0, none⟩, 1, rfl, ⟨Nat.le_refl _, Nat.le_refl _⟩, rd_blks (f := fInt .i64) H u12 rfl, rd_sole (d := kTr fAc) H u14 (Tr.K.mk (f := fAc) (A := none) (c := 0) (x := ⟨1, 0, ⟨#[]⟩⟩) (Nat.le_refl _) (Rd.nil _ _ _))⟩⟩
theorem gD_rd (H : Holds W0 L w) (u : Upd L (Blk b e [.int .i64 (-1), .int .i64 0, .slice none 0 0]) (Blk b e [.int .i64 (-1), .int .i64 0, .slice none 0 0]) L) : Rd (kTr fDv) w (some ⟨b, 0, none⟩) gD.kids := rd_sole (d := kTr fDv) H u (Tr.K.mk (f := fDv) (A := none) (c := 0) (x := ⟨-1, 0⟩) (Nat.le_refl _) (Rd.nil _ _ _))
theorem gL_rd (H : Holds W0 L w) (u : Upd L (Blk b e [.string ⟨#[69]⟩, .slice (some ⟨b21, 0, none⟩) 1 1]) (Blk b e [.string ⟨#[69]⟩, .slice (some ⟨b21, 0, none⟩) 1 1]) L) (u21 : Upd L (Blk b21 e1 [.string ⟨#[78]⟩, .slice (some ⟨b19, 0, none⟩) 1 1]) (Blk b21 e1 [.string ⟨#[78]⟩, .slice (some ⟨b19, 0, none⟩) 1 1]) L) (u19 : Upd L (Blk b19 e2 [.string tx]) (Blk b19 e2 [.string tx]) L) :
    Rd kDt w (some ⟨b, 0, none⟩) gL := rd_sole (d := kDt) H u ⟨some ⟨b21, 0, none⟩, 1, rfl, Nat.le_refl _, rd_sole (d := kCt) H u21 ⟨some ⟨b19, 0, none⟩, 1, rfl, Nat.le_refl _, rd_blks (f := fStr) H u19 rfl⟩⟩
theorem gTy_rd (H : Holds W0 L w) (u : Upd L (Blk b e [.string ⟨#[69]⟩]) (Blk b e [.string ⟨#[69]⟩]) L) : Rd kStr w (some ⟨b, 0, none⟩) gTy := rd_blks (f := fStr) H u rfl
theorem gRow_rd (H : Holds W0 L w) (u : Upd L (Blk b e [.int .i64 2]) (Blk b e [.int .i64 2]) L) : Rd (kInt .i64) w (some ⟨b, 0, none⟩) [2] := rd_blks (f := fInt .i64) H u rfl
theorem gTk_rd (H : Holds W0 L w) (u : Upd L (Blk b e [.int .i64 2, .int .i64 0, .int .i64 1]) (Blk b e [.int .i64 2, .int .i64 0, .int .i64 1]) L) : Rd fTk.kn w (some ⟨b, 0, none⟩) gTk := rd_blks (f := fTk) H u rfl
end
end Go.Proofs.YtgdemplcpcacaaaFx

/-! A region that draws its order: walked in an order of the prover's. -/
namespace Go.Proofs.YtgdemplcpcacaaaFx
open Go Go.RowKit
section
variable {P : Program} {ops : Array Oper} {Q : Exit → Act → World → Prop} {S : World → Prop} {hs : List Nat}
/-- Op j waits for op i, at once or by others. -/
def waits (ops : Array Oper) : Nat → Nat → Nat → Bool
  | 0, _, _ => false
  | f + 1, j, i => match ops[j]? with
    | some o => o.after.any fun e => Region.binds .any e && (e.on == i || waits ops f e.on i)
    | none => false
def allH (ops : Array Oper) (hs : List Nat) (j : Nat) : Bool := hs.all fun i => waits ops ops.size j i
def Closed (ops : Array Oper) (listed : Array Bool) : Prop := ∀ (j : Nat) (o : Oper), ops[j]? = some o → listed.getD j false = true → ∀ e ∈ o.after, Region.binds .any e = true → listed.getD e.on false = true
theorem waits_listed {listed : Array Bool} (hc : Closed ops listed) : ∀ (f j i : Nat) (o : Oper), ops[j]? = some o → (∀ e ∈ o.after, Region.binds .any e = true → listed.getD e.on false = true) → waits ops f j i = true → listed.getD i false = true
  | 0, _, _, _, _, _, h => by simp [waits] at h
  | f + 1, j, i, o, ho, hd, h => by
    unfold waits at h
    rw [ho] at h
    obtain ⟨e, he, hb⟩ := Array.any_eq_true'.1 h
    rw [Bool.and_eq_true, Bool.or_eq_true] at hb
    have h1 := hd e he hb.1
    rcases hb.2 with h2 | h2
    · rw [← (by simpa using h2 : e.on = i)]; exact h1
    · cases ho2 : ops[e.on]? with
      | none =>
        cases f with
        | zero => simp [waits] at h2
        | succ f => unfold waits at h2; rw [ho2] at h2; simp at h2
      | some o2 => exact waits_listed hc f e.on i o2 ho2 (hc e.on o2 ho2 h1) h2
theorem Closed.set {listed : Array Bool} (hc : Closed ops listed) {j : Nat} (hj : j ∈ Region.ready .any ops listed) : Closed ops (listed.setIfInBounds j true) := by
  intro q o ho hq e he hb
  obtain ⟨_, oj, hoj, hall⟩ := mem_ready.1 hj
  rcases Nat.decEq j q with hjq | hjq
  · rw [getD_set_ne false hjq] at hq
    exact getD_set_true (hc q o ho hq e he hb)
  · subst hjq
    rw [hoj] at ho
    injection ho with ho
    subst ho
    exact getD_set_true (hall e he hb)
def closedB (ops : Array Oper) (listed : Array Bool) : Bool := (List.range ops.size).all fun j => !listed.getD j false || (match ops[j]? with | some o => o.after.all (fun e => !Region.binds .any e || listed.getD e.on false) | none => true)
theorem closed_of {listed : Array Bool} (h : closedB ops listed = true) : Closed ops listed := by
  intro j o ho hj e he hb
  have hlt : j < ops.size := (Array.getElem?_eq_some_iff.1 ho).1
  have h1 := List.all_eq_true.1 h j (List.mem_range.2 hlt)
  rw [hj, ho] at h1
  simp only [Bool.not_true, Bool.false_or] at h1
  have h2 := Array.all_eq_true_iff_forall_mem.1 h1 e he
  rw [hb] at h2
  simpa using h2
def wpJ (P : Program) (ops : Array Oper) (Q : Exit → Act → World → Prop) (S : World → Prop) (hs : List Nat) : Nat → Array Bool → Act → World → Prop
  | 0, listed, a, w => Region.ready .any ops listed = [] ∧ Q .normal a w
  | g + 1, listed, a, w => (Region.ready .any ops listed = [] → Q .normal a w) ∧
    ∀ i ∈ Region.ready .any ops listed, wpOp P ops Q i (fun a' w' => (allH ops hs i = true ∨ S w') ∧ wpJ P ops Q S hs g (listed.setIfInBounds i true) a' w') a w
theorem wpJ_any : ∀ (g : Nat) (listed : Array Bool) (a : Act) (w : World), wpJ P ops Q S hs g listed a w → wpAny P .any ops Q g listed a w
  | 0, _, _, _, h => h
  | g + 1, _, _, _, h => ⟨h.1, fun i hi => wpOp_mono (fun a' w' h' => wpJ_any g _ a' w' h'.2) (h.2 i hi)⟩
theorem wpJ_first {i : Nat} {oi : Oper} {v : Value} (him : i ∈ hs) (hi : ops[i]? = some oi) (hsel : ∀ (j : Nat) (o : Oper) cs b, ops[j]? = some o → o.op ≠ .select cs b) (hQ : ∀ c a w, Q (.panic c) (a.put oi.dst v) w → Q (.panic c) a w) :
    ∀ (g : Nat) (listed : Array Bool) (a : Act) (w : World), (∀ j oj, ops[j]? = some oj → j ≠ i → listed.getD j true = false → (∀ e ∈ oj.after, Region.binds .any e = true → e.on ≠ i) → oi.apart ops oj = true) →
      i ∈ Region.ready .any ops listed → Closed ops listed → YieldsIf P ops S oi v a → S w → wpJ P ops Q S hs g (listed.setIfInBounds i true) (a.put oi.dst v) w → wpJ P ops Q S hs (g + 1) listed a w := by
  intro g
  induction g with
  | zero =>
    intro listed a w _ hr hcl hy hS H
    refine ⟨fun h => (by rw [h] at hr; cases hr), fun j hj => ?_⟩
    rcases Nat.decEq j i with hji | hji
    · have := ready_mono hj hji
      rw [H.1] at this
      cases this
    · subst hji
      exact hy.wpOp hi hS ⟨.inr hS, H⟩
  | succ g ih =>
    intro listed a w hfree hr hcl hy hS H
    refine ⟨fun h => (by rw [h] at hr; cases hr), fun j hj => ?_⟩
    rcases Nat.decEq j i with hji | hji
    · obtain ⟨hjun, oj, hoj, hall⟩ := mem_ready.1 hj
      have hnot : ∀ e ∈ oj.after, Region.binds .any e = true → e.on ≠ i := fun e he hb heq => by
        have h1 := hall e he hb
        have h0 := (mem_ready.1 hr).1
        rw [heq] at h1
        rcases Nat.lt_or_ge i listed.size with h' | h'
        · simp [h'] at h0 h1; rw [h0] at h1; cases h1
        · simp [Array.getElem?_eq_none h'] at h1
      have hna : ¬ allH ops hs j = true := fun hb => by
        unfold allH at hb
        have h1 := waits_listed hcl _ j i oj hoj hall (List.all_eq_true.1 hb i him)
        have h0 := (mem_ready.1 hr).1
        rcases Nat.lt_or_ge i listed.size with h' | h'
        · simp [h'] at h0 h1; rw [h0] at h1; cases h1
        · simp [Array.getElem?_eq_none h'] at h1
      have h2 := wpOp_putIf hoj (hfree j oj hoj hji hjun hnot) (fun cs b => hsel i oi cs b hi) (fun cs b => hsel j oj cs b hoj) hQ hy (H.2 j (ready_mono hj hji))
      refine wpOp_mono (fun a' w' h3 => ?_) h2
      have hS' : S w' := h3.2.1.resolve_left hna
      refine ⟨.inr hS', ih _ a' w' (fun k ok hk hki hun hno => hfree k ok hk hki ?_ hno) (ready_mono hr (Ne.symm hji)) (hcl.set hj) h3.1 hS' ?_⟩
      · rcases Nat.decEq j k with hjk | hjk
        · rw [getD_set_ne true hjk] at hun; exact hun
        · subst hjk; exact hjun
      · rw [Array.setIfInBounds_comm _ _ hji]
        exact h3.2.2
    · subst hji
      exact hy.wpOp hi hS ⟨.inr hS, H⟩
end
section
variable {P : Program} {n : Nat} {Q : Post} {l : Fr} {w : World} {ops : Array Oper} {o : Oper} {S : World → Prop} {hs : List Nat} {k d : Nat} {v : Value}
/-- The walk, step by step: each step tells which may come up. -/
def wj (P : Program) (n : Nat) (ops : Array Oper) (S : World → Prop) (Q : Post) (hs : List Nat) (g : Nat) (listed : Array Bool) (l : Fr) (w : World) : Prop := ∀ a, Ag n l a → wpJ P ops (up n Q) S hs g listed a w
variable {listed : Array Bool} {g : Nat}
theorem wc_tree {id : Nat} {ol : List Oper} (hs : List Nat) (S : World → Prop) (hm : P.follows .mixedOrders = true) (h : wj P n ol.toArray S Q hs ol.toArray.size (Array.replicate ol.toArray.size false) l w.drew) : wc P n (.region id ol.toArray true) Q l w := fun a ha =>
  wp_region_any hm (wpJ_any _ _ _ _ (h a ha))
theorem wj_done (hr : (Region.ready .any ops listed).isEmpty = true) (h : Q .normal l w) : wj P n ops S Q hs g listed l w := fun a ha => by
  have hr' : Region.ready .any ops listed = [] := by simpa using hr
  cases g with
  | zero => exact ⟨hr', l, ha, h⟩
  | succ g => exact ⟨fun _ => ⟨l, ha, h⟩, by rw [hr']; simp⟩
def headOk (ops : Array Oper) (hs : List Nat) (listed : Array Bool) (k : Nat) : Bool := Region.noSelect ops && (Region.ready .any ops listed).contains k && Region.free .any ops listed k && hs.contains k && closedB ops listed
theorem wj_y {k : Nat} {o : Oper} {v : Value} (ho : ops[k]? = some o) (hB : headOk ops hs listed k = true) (hQ : ∀ c l w, Q (.panic c) l w → False) (hS : S w) (hy : ∀ a, Ag n l a → YieldsIf P ops S o v a) (hd : o.dst = some d) (hn : Nat.ble (d + 1) n = true)
    (h : wj P n ops S Q hs g (listed.setIfInBounds k true) ((d, v) :: l) w) : wj P n ops S Q hs (g + 1) listed l w := fun a ha => by
  simp only [headOk, Bool.and_eq_true] at hB
  obtain ⟨⟨⟨⟨h0, h1⟩, h2⟩, h3⟩, h4⟩ := hB
  refine wpJ_first (by simpa using h3) ho (Region.noSelect_spec h0) (fun c a w ⟨l, _, hp⟩ => (hQ c l w hp).elim) g listed a w (Region.free_spec ho h2) (by simpa using h1) (closed_of h4) (hy a ha) hS ?_
  rw [hd]
  exact h _ (ha.put hn v)
theorem wj_v (ho : ops[k]? = some o) (hB : headOk ops hs listed k = true) (hQ : ∀ c l w, Q (.panic c) l w → False) (hS : S w) (hd : o.dst = some d) (hg : o.guard = none) (hn : Nat.ble (d + 1) n = true) (hv : ∀ W, S W → Vs P n l o W v) (h : wj P n ops S Q hs g (listed.setIfInBounds k true) ((d, v) :: l) w) : wj P n ops S Q hs (g + 1) listed l w :=
  wj_y ho hB hQ hS (fun a ha => .inl ⟨by simp [Region.wanted, hg], fun W hW => hv W hW a ha⟩) hd hn h
theorem wj_vg {op : Op} {ty : TypeId} {pos : String} {af : Array Edge} {j dj : Nat} {b b' : Bool} (ho : ops[k]? = some { dst := some d, op := op, type := ty, pos := pos, after := af, guard := some (j, b) }) (hB : headOk ops hs listed k = true) (hQ : ∀ c l w, Q (.panic c) l w → False) (hj : (ops[j]?).bind (·.dst) = some dj) (hb : lk l dj = some (.bool b')) (he : b' = b) (hS : S w) (hn : Nat.ble (d + 1) n = true)
    (hv : ∀ W, S W → Vs P n l { dst := some d, op := op, type := ty, pos := pos, after := af, guard := none } W v) (h : wj P n ops S Q hs g (listed.setIfInBounds k true) ((d, v) :: l) w) : wj P n ops S Q hs (g + 1) listed l w :=
  wj_y ho hB hQ hS (fun a ha => .inl ⟨by subst he; simp [Region.wanted, yielded_at ha hj hb], fun W hW => hv W hW a ha⟩) rfl hn h
theorem wjV {op : Op} {ty : TypeId} {pos : String} {af : Array Edge} (ho : ops[k]? = some ⟨some d, op, ty, pos, af, none⟩) (hS : S w) (hv : ∀ W, S W → Vs P n l ⟨some d, op, ty, pos, af, none⟩ W v) (h : wj P n ops S Q hs g (listed.setIfInBounds k true) ((d, v) :: l) w) (hB : headOk ops hs listed k = true := by kernel_rfl) (hQ : ∀ c l w, Q (.panic c) l w → False := by exact fun _ _ _ h => h) (hn : Nat.ble (d + 1) n = true := by exact rfl) : wj P n ops S Q hs (g + 1) listed l w := wj_v ho hB hQ hS rfl rfl hn hv h
theorem wj_off {op : Op} {ty : TypeId} {pos : String} {af : Array Edge} {j dj : Nat} {b b' : Bool} (ho : ops[k]? = some { dst := some d, op := op, type := ty, pos := pos, after := af, guard := some (j, b) }) (hB : headOk ops hs listed k = true) (hQ : ∀ c l w, Q (.panic c) l w → False) (hj : (ops[j]?).bind (·.dst) = some dj) (hb : lk l dj = some (.bool b')) (hne : b' = !b) (hS : S w) (hn : Nat.ble (d + 1) n = true)
    (h : wj P n ops S Q hs g (listed.setIfInBounds k true) ((d, undef) :: l) w) : wj P n ops S Q hs (g + 1) listed l w :=
  wj_y ho hB hQ hS (fun a ha => .inr ⟨by simp [Region.wanted, yielded_at ha hj hb, hne], rfl⟩) rfl hn h
theorem wj_offu {op : Op} {ty : TypeId} {pos : String} {af : Array Edge} {j dj : Nat} {b : Bool} (ho : ops[k]? = some { dst := some d, op := op, type := ty, pos := pos, after := af, guard := some (j, b) }) (hB : headOk ops hs listed k = true) (hQ : ∀ c l w, Q (.panic c) l w → False) (hj : (ops[j]?).bind (·.dst) = some dj) (hb : lk l dj = some undef) (hS : S w) (hn : Nat.ble (d + 1) n = true)
    (h : wj P n ops S Q hs g (listed.setIfInBounds k true) ((d, undef) :: l) w) : wj P n ops S Q hs (g + 1) listed l w :=
  wj_y ho hB hQ hS (fun a ha => .inr ⟨by simp [Region.wanted, yielded_un ha hj hb], rfl⟩) rfl hn h
theorem wj_guard {dj : Nat} {p : Bool} (hb : lk l dj = some (.bool p)) (h1 : p = true → wj P n ops S Q hs g listed l w) (h2 : p = false → wj P n ops S Q hs g listed l w) : wj P n ops S Q hs g listed l w := by
  cases p
  · exact h2 rfl
  · exact h1 rfl
theorem wj_op (ho : ops[k]? = some o) (h : wl P n ops [o] (thenQ (fun l' w' => (allH ops hs k = false → S w') ∧ wj P n ops S Q hs g (listed.setIfInBounds k true) l' w') Q) l w) : ∀ a, Ag n l a → wpOp P ops (up n Q) k (fun a' w' => (allH ops hs k = true ∨ S w') ∧ wpJ P ops (up n Q) S hs g (listed.setIfInBounds k true) a' w') a w := fun a ha => by
  have h1 := h a ha
  have hall : ∀ {w' : World}, (allH ops hs k = false → S w') → allH ops hs k = true ∨ S w' := fun hh => by
    cases e : allH ops hs k
    · exact .inr (hh e)
    · exact .inl rfl
  unfold wpOp
  simp only [ho]
  unfold wpList at h1
  by_cases hw : Region.wanted o (yielded ops a.tmps) = true
  · rw [if_pos hw] at h1 ⊢
    have hlo : LetsOut (up n (thenQ (fun l' w' => (allH ops hs k = false → S w') ∧ wj P n ops S Q hs g (listed.setIfInBounds k true) l' w') Q)) → LetsOut (up n Q) := fun ⟨a, w, hh⟩ => ⟨a, w, hh⟩
    refine h1.imp (fun h => ?_) (fun h => ⟨h.1, hlo h.2⟩)
    refine wp_swapQ (fun c a w hp => hp) hlo (Oper.wp_mono (fun a' w' hh => ?_) h)
    obtain ⟨l', hl, hS, hr⟩ := hh
    exact ⟨hall hS, hr a' hl⟩
  · rw [if_neg hw] at h1 ⊢
    obtain ⟨l', hl, hS, hr⟩ := h1
    exact ⟨hall hS, hr _ hl⟩
theorem wj_t (ho : ops[k]? = some o) (hr : (Region.ready .any ops listed == [k]) = true) (h : wl P n ops [o] (thenQ (fun l' w' => (allH ops hs k = false → S w') ∧ wj P n ops S Q hs g (listed.setIfInBounds k true) l' w') Q) l w) : wj P n ops S Q hs (g + 1) listed l w := fun a ha => by
  have hr' : Region.ready .any ops listed = [k] := by simpa using hr
  refine ⟨fun h1 => (by rw [hr'] at h1; cases h1), fun j hj => ?_⟩
  rw [hr', List.mem_singleton] at hj
  subst hj
  exact wj_op ho h a ha
theorem wj_2 {k2 : Nat} {o2 : Oper} (ho : ops[k]? = some o) (ho2 : ops[k2]? = some o2) (hr : (Region.ready .any ops listed == [k, k2]) = true) (h : wl P n ops [o] (thenQ (fun l' w' => (allH ops hs k = false → S w') ∧ wj P n ops S Q hs g (listed.setIfInBounds k true) l' w') Q) l w)
    (h2 : wl P n ops [o2] (thenQ (fun l' w' => (allH ops hs k2 = false → S w') ∧ wj P n ops S Q hs g (listed.setIfInBounds k2 true) l' w') Q) l w) : wj P n ops S Q hs (g + 1) listed l w := fun a ha => by
  have hr' : Region.ready .any ops listed = [k, k2] := by simpa using hr
  refine ⟨fun h1 => (by rw [hr'] at h1; cases h1), fun j hj => ?_⟩
  rw [hr'] at hj
  simp only [List.mem_cons, List.not_mem_nil, or_false] at hj
  rcases hj with rfl | rfl
  · exact wj_op ho h a ha
  · exact wj_op ho2 h2 a ha
end
end Go.Proofs.YtgdemplcpcacaaaFx

/-! Builders of strings, walked. -/
namespace Go.Proofs.Ytgdemplcpcacaaa.BldW
open Go Go.RowKit Go.Proofs.YtgdemplcpcacaaaFx 
theorem en78 : Enters Try.prog 78 := enters Try.func78 (by kernel_rfl) rfl
theorem fa90_0 : FieldAt Try.prog 90 0 0 := field_at (sz := 0) Try.underlying90 rfl (by kernel_rfl) rfl
theorem fa90_1 : FieldAt Try.prog 90 1 1 := field_at (sz := 0) Try.underlying90 rfl (by kernel_rfl) rfl
theorem info5 : (Try.prog.info? 5).map (fun i => (i.zero, i.size, i.bytes)) = some (some (.int .u8 0), 1, 1) := by kernel_rfl
theorem mixed : Try.prog.follows .mixedOrders = true := by kernel_rfl
theorem one87 : One Try.prog 87 := one_of Try.underlying87 rfl (by kernel_rfl)
theorem one88 : One Try.prog 88 := one_of Try.underlying88 rfl (by kernel_rfl)
theorem sz5 : ∀ W, (sizeOf 5).run Try.prog W = .ok 1 W := size_of (by kernel_rfl)
theorem sz87 : ∀ W, (sizeOf 87).run Try.prog W = .ok 1 W := size_of (by kernel_rfl)
theorem sz88 : ∀ W, (sizeOf 88).run Try.prog W = .ok 1 W := size_of (by kernel_rfl)
theorem zv5 : ∀ W, (zeroValue 5).run Try.prog W = .ok (.int .u8 0) W := zero_of (by kernel_rfl)

theorem noEscape_run (x : Value) (w : World) : (callFunc 91 [x].toArray).run Try.prog w = .ok (.value x) w := by
  have h := run_callFunc_extern Try.func91 (by kernel_rfl) (by kernel_rfl) (by kernel_rfl) (e := Extern.AbiNoEscape.same) (by kernel_rfl) #[x] w
  rw [Lib.run_noEscape] at h
  exact h

set_option maxRecDepth 100000 in
theorem cc_fresh {w0 w : World} {L : List Ch} {b : Nat} {v : Value} (HH : Holds w0 (Blk b 90 [.pointer none, v] :: L) w) : Calls Try.prog 78 #[.pointer (some ⟨b, 0, none⟩)] w fun e w' => ∃ q, e = .returned q ∧ Holds w0 (Blk b 90 [.pointer (some ⟨b, 0, none⟩), v] :: L) w' := by
  refine calls_of Try.func78 rfl Try.ntmps78 rfl ?_
  have H := HH
  refine wcR ?_
  refine wM ?_
  refine wV (v_nil rfl) ?_
  refine wV (v_fb (o2 := 0) fa90_0 rfl rfl) ?_
  refine wV (v_load one87 rfl (H.at (by repeat constructor) rfl)) ?_
  refine wV (v_eqlp Try.underlying87 rfl rfl) ?_
  refine wl_nil ?_
  refine wc_cond_t rfl ?_
  refine wc_region ?_
  refine wM ?_
  refine wM ?_
  refine wV (v_ptrU H (by repeat constructor) rfl Try.underlying87 Try.underlying167 (by kernel_rfl) rfl) ?_
  refine wl_ext (vs := [.pointer (some ⟨b, 0, none⟩)]) (v := .pointer (some ⟨b, 0, none⟩)) rfl rfl (noEscape_run _ _) ?_
  refine wV (v_uPtr H (by repeat constructor) rfl Try.underlying167 Try.underlying87 (by kernel_rfl) (by kernel_rfl) rfl) ?_
  refine wV (v_nil rfl) ?_
  refine wV (v_fb (o2 := 0) fa90_0 rfl rfl) ?_
  refine wl_store (vs := [_]) H (by repeat constructor) sz87 rfl rfl rfl rfl rfl (by (repeat constructor)) ?_
  intro w5 H6 hw5
  refine wl_nil ?_
  exact ⟨_, res0 rfl, H6⟩

set_option maxRecDepth 100000 in
theorem cc_used {w0 w : World} {L : List Ch} {b : Nat} {v : Value} (HH : Holds w0 (Blk b 90 [.pointer (some ⟨b, 0, none⟩), v] :: L) w) : Calls Try.prog 78 #[.pointer (some ⟨b, 0, none⟩)] w fun e w' => ∃ q, e = .returned q ∧ Holds w0 (Blk b 90 [.pointer (some ⟨b, 0, none⟩), v] :: L) w' := by
  refine calls_of Try.func78 rfl Try.ntmps78 rfl ?_
  have H := HH
  refine wcR ?_
  refine wM ?_
  refine wV (v_nil rfl) ?_
  refine wV (v_fb (o2 := 0) fa90_0 rfl rfl) ?_
  refine wV (v_load one87 rfl (H.at (by repeat constructor) rfl)) ?_
  refine wV (v_eqlp Try.underlying87 rfl rfl) ?_
  refine wl_nil ?_
  refine wc_cond_f rfl ?_
  refine wcR ?_
  refine wM ?_
  refine wV (v_nil rfl) ?_
  refine wV (v_fb (o2 := 0) fa90_0 rfl rfl) ?_
  refine wV (v_load one87 rfl (H.at (by repeat constructor) rfl)) ?_
  refine wM ?_
  refine wV (v_neqp Try.underlying87 (by kernel_rfl) rfl rfl) ?_
  refine wl_nil ?_
  refine wc_cond_f rfl ?_
  refine wc_skip ?_
  exact ⟨_, res0 rfl, H⟩

theorem cc_calls {w0 w : World} {L : List Ch} {b : Nat} {p v : Value} (hp : p = Value.pointer none ∨ p = Value.pointer (some ⟨b, 0, none⟩)) (HH : Holds w0 (Blk b 90 [p, v] :: L) w) : Calls Try.prog 78 #[.pointer (some ⟨b, 0, none⟩)] w fun e w' => ∃ q, e = .returned q ∧ Holds w0 (Blk b 90 [.pointer (some ⟨b, 0, none⟩), v] :: L) w' := by
  rcases hp with rfl | rfl
  · exact cc_fresh HH
  · exact cc_used HH

set_option maxHeartbeats 1600000 in
set_option maxRecDepth 100000 in
theorem wb_calls {w0 w : World} {L : List Ch} {b : Nat} {l : List UInt8} {c : UInt8} (hl : l.length ≤ 1099511627776) (HH : Holds w0 (SB 90 5 b l :: L) w) : Calls Try.prog 56 #[.pointer (some ⟨b, 0, none⟩), .int .u8 c.toNat] w fun e w' => ∃ q, e = .returned q ∧ Holds w0 (SB 90 5 b (l ++ [c]) :: L) w' := by
  obtain ⟨p, A, cp, hp, _, HH2⟩ := HH.sbOpen
  clear HH
  have HH := HH2
  refine calls_of Try.func56 rfl Try.ntmps56 rfl ?_
  have H := HH
  refine wcR ?_
  refine wA ?_
  refine wl_nil ?_
  refine wcR ?_
  refine wM ?_
  refine wl_call en78 rfl rfl (cc_calls hp H) ?_
  rintro _ w1 Hc
  refine wl_nil ?_
  refine wcR ?_
  refine wM ?_
  refine wM ?_
  refine wV (v_nil rfl) ?_
  refine wV (v_fb (o2 := 1) fa90_1 rfl rfl) ?_
  refine wV (v_load one88 rfl (Hc.at (by repeat constructor) rfl)) ?_
  refine wM ?_
  refine wl_slit (v := .int .u8 0) (z := [.int .u8 0]) (cs := [.int .u8 c.toNat]) (sz := 1) Hc rfl Try.underlying88 sz5 zv5 (by decide) (by decide) (by kernel_rfl) rfl (by repeat constructor) ?_
  intro b13 w2 hb13 H2 hs2
  refine wl_appB (L' := fun v' => Blk b13 5 [.int .u8 c.toNat] :: Blk b 90 [.pointer (some ⟨b, 0, none⟩), .slice A l.length cp] :: Raw 5 1 v' (l.length + 1) (byC l ++ [.int .u8 c.toNat]) :: L) H2 (fun v' => by repeat constructor) (by repeat constructor) rfl rfl Try.underlying88 info5 rfl rfl rfl (by omega) ?_
  intro A14 c14 w3 H3 hs3
  refine wV (v_nil rfl) ?_
  refine wV (v_fb (o2 := 1) fa90_1 rfl rfl) ?_
  refine wl_store (vs := [_]) H3 (by repeat constructor) sz88 rfl rfl rfl rfl rfl (by (repeat constructor)) ?_
  intro w4 H5 hw4
  refine wl_nil ?_
  refine wcR ?_
  refine wA ?_
  refine wl_nil ?_
  refine wc_ret ?_
  have H9 := Holds.sbClose (T := 90) (e := 5) (b := b) (l := l ++ [c]) (v := .slice A14 (l.length + 1) c14) (L := L) (.inr rfl) (by simp) (by rw [show (l ++ [c]).length = l.length + 1 by simp, byC_app]; exact H5.pm (by repeat (first | exact pm_refl _ | constructor | refine pm_skip ?_)))
  exact ⟨_, res1 rfl rfl, H9⟩

set_option maxHeartbeats 1600000 in
set_option maxRecDepth 100000 in
theorem ws_calls {w0 w : World} {L : List Ch} {b : Nat} {l : List UInt8} {s : ByteArray} (hl : l.length ≤ 1099511627776) (hs : 0 < s.size ∧ s.size ≤ 1099511627776) (HH : Holds w0 (SB 90 5 b l :: L) w) : Calls Try.prog 57 #[.pointer (some ⟨b, 0, none⟩), .string s] w fun e w' => ∃ q, e = .returned q ∧ Holds w0 (SB 90 5 b (l ++ s.data.toList) :: L) w' := by
  obtain ⟨p, A, cp, hp, _, HH2⟩ := HH.sbOpen
  clear HH
  have HH := HH2
  refine calls_of Try.func57 rfl Try.ntmps57 rfl ?_
  have H := HH
  refine wcR ?_
  refine wA ?_
  refine wA ?_
  refine wl_nil ?_
  refine wcR ?_
  refine wM ?_
  refine wl_call en78 rfl rfl (cc_calls hp H) ?_
  rintro _ w1 Hc
  refine wl_nil ?_
  refine wcR ?_
  refine wM ?_
  refine wM ?_
  refine wV (v_nil rfl) ?_
  refine wV (v_fb (o2 := 1) fa90_1 rfl rfl) ?_
  refine wV (v_load one88 rfl (Hc.at (by repeat constructor) rfl)) ?_
  refine wM ?_
  refine wl_appStr (L' := fun v' => Blk b 90 [.pointer (some ⟨b, 0, none⟩), .slice A l.length cp] :: Raw 5 1 v' (l.length + s.size) (byC l ++ Lib.strCells s) :: L) Hc (fun v' => by repeat constructor) rfl Try.underlying88 Try.underlying9 info5 rfl rfl (by omega) ?_
  intro A14 c14 w2 H2 hs2
  refine wV (v_nil rfl) ?_
  refine wV (v_fb (o2 := 1) fa90_1 rfl rfl) ?_
  refine wl_store (vs := [_]) H2 (by repeat constructor) sz88 rfl rfl rfl rfl rfl (by (repeat constructor)) ?_
  intro w3 H4 hw3
  refine wl_nil ?_
  refine wcR ?_
  refine wM ?_
  refine wV (v_lens Try.underlying9 rfl) ?_
  refine wA ?_
  refine wA ?_
  refine wl_nil ?_
  refine wc_ret ?_
  have H9 := Holds.sbClose (T := 90) (e := 5) (b := b) (l := l ++ s.data.toList) (v := .slice A14 (l.length + s.size) c14) (L := L) (.inr rfl) (app_ne hs.1) (by rw [show (l ++ s.data.toList).length = l.length + s.size by (rw [List.length_append, Array.length_toList]; rfl), byC_app]; exact H4.pm (by repeat (first | exact pm_refl _ | constructor | refine pm_skip ?_)))
  exact ⟨_, res2 rfl rfl rfl, H9⟩

set_option maxHeartbeats 1600000 in
set_option maxRecDepth 100000 in
theorem sbs_calls {w0 w : World} {L : List Ch} {b : Nat} {l : List UInt8} (HH : Holds w0 (SB 90 5 b l :: L) w) : Calls Try.prog 32 #[.pointer (some ⟨b, 0, none⟩)] w fun e w' => ∃ v, e = .returned v ∧ v = .string ⟨l.toArray⟩ ∧ Holds w0 L w' := by
  obtain ⟨p, A, cp, hp, hA, HH2⟩ := HH.sbOpen
  clear HH
  have HH := HH2
  refine calls_of Try.func32 rfl Try.ntmps32 rfl ?_
  have H := HH
  refine wcR ?_
  refine wA ?_
  refine wl_nil ?_
  refine wc_seq ?_
  refine wc_tree [0, 1, 2, 3, 5, 6, 7, 8, 9] (fun W => Holds w0 (Blk b 90 [p, .slice A l.length cp] :: L) W) mixed ?_
  have Hd := H.drew
  have HSd : Holds w0 (Blk b 90 [p, .slice A l.length cp] :: L) _ := Hd.pm (by repeat (first | exact pm_refl _ | constructor | refine pm_skip ?_))
  refine wjV (k := 0) rfl HSd (fun W HW => v_move rfl) ?_
  refine wjV (k := 1) rfl HSd (fun W HW => v_nil rfl) ?_
  refine wjV (k := 2) rfl HSd (fun W HW => v_fb (o2 := 1) fa90_1 rfl rfl) ?_
  refine wjV (k := 3) rfl HSd (fun W HW => v_load one88 rfl (HW.at (by repeat constructor) rfl)) ?_
  refine wjV (k := 5) rfl HSd (fun W HW => v_move rfl) ?_
  refine wjV (k := 6) rfl HSd (fun W HW => v_nil rfl) ?_
  refine wjV (k := 7) rfl HSd (fun W HW => v_fb (o2 := 1) fa90_1 rfl rfl) ?_
  refine wjV (k := 8) rfl HSd (fun W HW => v_load one88 rfl (HW.at (by repeat constructor) rfl)) ?_
  refine wjV (k := 9) rfl HSd (fun W HW => v_len Try.underlying88 rfl) ?_
  refine wj_t (k := 4) rfl (by kernel_rfl) ?_
  refine wV (v_data hA rfl) ?_
  have HS2 : Holds w0 (Blk b 90 [p, .slice A l.length cp] :: L) _ := Hd.pm (by repeat (first | exact pm_refl _ | constructor | refine pm_skip ?_))
  refine wl_nil (tn ⟨fun _ => HS2, ?_⟩)
  refine wj_t (k := 10) rfl (by kernel_rfl) ?_
  refine wl_ustr (bs := l) Hd (by repeat constructor) rfl rfl Try.underlying140 (by kernel_rfl) rfl rfl ?_
  intro w3 H3
  refine wl_nil (tn ⟨fun hlt => absurd hlt (by rw [show allH _ _ _ = true by kernel_rfl]; simp), ?_⟩)
  refine wj_t (k := 11) rfl (by kernel_rfl) ?_
  refine wA ?_
  refine wl_nil (tn ⟨fun hlt => absurd hlt (by rw [show allH _ _ _ = true by kernel_rfl]; simp), ?_⟩)
  refine wj_done (by kernel_rfl) ?_
  refine wc_ret ?_
  exact ⟨_, res1 rfl rfl, rfl, H3.pm (by repeat (first | exact pm_refl _ | constructor | refine pm_skip ?_))⟩
end Go.Proofs.Ytgdemplcpcacaaa.BldW
