/- Bytes read as a table: plain. How a reading of bytes goes on: what is so of its state. Equality of a pair of numbers of two types. Bytes compared; tables read are of memory's size. One number read. Numbers written, seven bits a byte. -/
import Derived.Test.YtkpehkadammppaaK05
import Derived.Laws.BytesArg
import Derived.Test.YtkpehkadammppaaK02
import Derived.Test.YtkpehkadammppaaProg
import Derived.Test.YtkpehkadammppaaK03
set_option linter.unusedVariables false
set_option linter.unusedSimpArgs false
/-! Bytes read as a table: plain. -/
namespace Go.Proofs.YtkpehkadammppaaFx
open Go Go.RowKit
theorem Bytes.drop {bs : List Int} (h : Bytes bs) (k : Nat) : Bytes (bs.drop k) := fun x hx => h x (List.mem_of_mem_drop hx)
theorem Bytes.right {a b : List Int} (h : Bytes (a ++ b)) : Bytes b := fun x hx => h x (List.mem_append_right _ hx)
theorem num_rest {n : Nat} {bs r : List Int} (hB : Bytes bs) (h : num bs = some (n, r)) : Bytes r ∧ r.length < bs.length ∧ n ≤ 2147483647 := by
  obtain ⟨h1, h2⟩ := num_is hB h
  subst h1
  have := vint_pos n
  exact ⟨hB.right, by rw [List.length_append]; omega, h2⟩
theorem numG_suffix : ∀ (k acc sh n : Nat) (bs r : List Int), numG k acc sh bs = some (n, r) → ∃ j, r = bs.drop j ∧ j ≤ bs.length
  | 0, _, _, _, _, _, h => by simp [numG] at h
  | _ + 1, _, _, _, [], _, h => by simp [numG] at h
  | k + 1, acc, sh, n, c :: bs, r, h => by
    unfold numG at h
    split at h
    · split at h
      · cases h
      · injection h with h
        injection h with _ h
        exact ⟨1, h.symm, by simp⟩
    · obtain ⟨j, h1, h2⟩ := numG_suffix k _ _ n bs r h
      exact ⟨j + 1, h1, by simp; omega⟩
theorem num_suffix {n : Nat} {bs r : List Int} (h : num bs = some (n, r)) : r = bs.drop (bs.length - r.length) := by
  obtain ⟨j, h1, h2⟩ := numG_suffix _ _ _ _ _ _ h
  subst h1
  rw [List.length_drop, show bs.length - (bs.length - j) = j by omega]
/-- The program's reading of one number: the number, what is left, whether it is bad. -/
def numS (bs : List Int) (bad : Bool) : Nat × List Int × Bool := match num bs with
  | some (n, r) => (n, r, bad)
  | none => (0, bs, true)
theorem numS_some {bs r : List Int} {n : Nat} {bad : Bool} (h : num bs = some (n, r)) : numS bs bad = (n, r, bad) := by rw [numS, h]
theorem numS_none {bs : List Int} {bad : Bool} (h : num bs = none) : numS bs bad = (0, bs, true) := by rw [numS, h]
/-- The document's: its place in the bytes. -/
def nxtS (bs : List Int) (at_ : Nat) (bad : Bool) : Nat × Nat × Bool := if bad then (0, at_, true) else match num (bs.drop at_) with
  | some (n, r) => (n, bs.length - r.length, false)
  | none => (0, at_, true)
theorem nxtS_bad (bs : List Int) (at_ : Nat) : nxtS bs at_ true = (0, at_, true) := rfl
theorem nxtS_some {bs r : List Int} {n a : Nat} (h : num (bs.drop a) = some (n, r)) : nxtS bs a false = (n, bs.length - r.length, false) := by rw [nxtS, h]; rfl
theorem nxtS_none {bs : List Int} {a : Nat} (h : num (bs.drop a) = none) : nxtS bs a false = (0, a, true) := by rw [nxtS, h]; rfl
/-- Behind a number, its place. -/
theorem nxt_at {bs r : List Int} {n a : Nat} (ha : a ≤ bs.length) (h : num (bs.drop a) = some (n, r)) : bs.drop (bs.length - r.length) = r ∧ r.length ≤ bs.length := by
  have h1 := num_suffix h
  have h2 : r.length ≤ (bs.drop a).length := by
    have := congrArg List.length h1
    rw [List.length_drop] at this
    omega
  rw [List.length_drop] at h1 h2
  refine ⟨?_, by omega⟩
  conv => rhs; rw [h1]
  rw [List.drop_drop]
  congr 1
  omega
/-- One step of the reading. -/
theorem numG_step {k acc sh i : Nat} {bs : List Int} (hi : i < bs.length) : numG (k + 1) acc sh (bs.drop i) =
    if bs.getD i 0 < 128 then if (bs.getD i 0 = 0 ∧ 0 < sh) ∨ 2147483647 < acc + ((bs.getD i 0).toNat % 128) * 2 ^ sh then none else some (acc + ((bs.getD i 0).toNat % 128) * 2 ^ sh, bs.drop (i + 1))
    else numG k (acc + ((bs.getD i 0).toNat % 128) * 2 ^ sh) (sh + 7) (bs.drop (i + 1)) := by
  rw [List.drop_eq_getElem_cons hi]
  have e : bs.getD i 0 = bs[i] := by rw [List.getD_eq_getElem?_getD, List.getElem?_eq_getElem hi]; rfl
  rw [e]
  rfl
theorem numG_nil (k acc sh : Nat) : numG k acc sh [] = none := by cases k <;> rfl
/-! ### rows -/
def pMvs : Nat → List Int → Option (List Mv × List Int)
  | 0, bs => some ([], bs)
  | k + 1, bs => (num bs).bind fun d => (num d.2).bind fun n => (pMvs k n.2).map fun x => (⟨d.1, n.1⟩ :: x.1, x.2)
def pGos : Nat → List Int → Option (List Int × List Int)
  | 0, bs => some ([], bs)
  | k + 1, bs => (num bs).bind fun d => (pGos k d.2).map fun x => (((d.1 : Int) - 1) :: x.1, x.2)
def pRows (kinds rules : Nat) : Nat → List Int → Option (Tb × List Int)
  | 0, bs => some (⟨[], []⟩, bs)
  | s + 1, bs => (pMvs kinds bs).bind fun m => (pGos rules m.2).bind fun g => (pRows kinds rules s g.2).map fun x => (⟨m.1 :: x.1.mv, g.1 :: x.1.go⟩, x.2)
theorem pMvs_succ (k : Nat) (bs : List Int) : pMvs (k + 1) bs = (num bs).bind fun d => (num d.2).bind fun n => (pMvs k n.2).map fun x => (⟨d.1, n.1⟩ :: x.1, x.2) := rfl
theorem pGos_succ (k : Nat) (bs : List Int) : pGos (k + 1) bs = (num bs).bind fun d => (pGos k d.2).map fun x => (((d.1 : Int) - 1) :: x.1, x.2) := rfl
theorem pRows_succ (kinds rules s : Nat) (bs : List Int) : pRows kinds rules (s + 1) bs = (pMvs kinds bs).bind fun m => (pGos rules m.2).bind fun g => (pRows kinds rules s g.2).map fun x => (⟨m.1 :: x.1.mv, g.1 :: x.1.go⟩, x.2) := rfl
/-- More in front. -/
def preM (ms : List Mv) (x : List Mv × List Int) : List Mv × List Int := (ms ++ x.1, x.2)
def preG (gs : List Int) (x : List Int × List Int) : List Int × List Int := (gs ++ x.1, x.2)
def preT (t : Tb) (x : Tb × List Int) : Tb × List Int := (⟨t.mv ++ x.1.mv, t.go ++ x.1.go⟩, x.2)
theorem pMvs_step {k : Nat} {bs r r2 : List Int} {d n : Nat} {ms : List Mv} (h1 : num bs = some (d, r)) (h2 : num r = some (n, r2)) : (pMvs (k + 1) bs).map (preM ms) = (pMvs k r2).map (preM (ms ++ [⟨d, n⟩])) := by
  rw [pMvs_succ, h1]
  simp only [Option.bind_some, h2, Option.map_map]
  congr 1
  funext x
  simp [preM]
theorem pMvs_no1 {k : Nat} {bs : List Int} (h1 : num bs = none) : pMvs (k + 1) bs = none := by rw [pMvs_succ, h1]; rfl
theorem pMvs_no2 {k : Nat} {bs r : List Int} {d : Nat} (h1 : num bs = some (d, r)) (h2 : num r = none) : pMvs (k + 1) bs = none := by rw [pMvs_succ, h1]; simp [h2]
theorem pGos_step {k : Nat} {bs r : List Int} {d : Nat} {gs : List Int} (h1 : num bs = some (d, r)) : (pGos (k + 1) bs).map (preG gs) = (pGos k r).map (preG (gs ++ [(d : Int) - 1])) := by
  rw [pGos_succ, h1]
  simp only [Option.bind_some, Option.map_map]
  congr 1
  funext x
  simp [preG]
theorem pGos_no {k : Nat} {bs : List Int} (h1 : num bs = none) : pGos (k + 1) bs = none := by rw [pGos_succ, h1]; rfl
theorem pRows_step {kinds rules s : Nat} {bs r r2 : List Int} {ms : List Mv} {gs : List Int} {t : Tb} (h1 : pMvs kinds bs = some (ms, r)) (h2 : pGos rules r = some (gs, r2)) : (pRows kinds rules (s + 1) bs).map (preT t) = (pRows kinds rules s r2).map (preT ⟨t.mv ++ [ms], t.go ++ [gs]⟩) := by
  rw [pRows_succ, h1]
  simp only [Option.bind_some, h2, Option.map_map]
  congr 1
  funext x
  simp [preT]
theorem pRows_no1 {kinds rules s : Nat} {bs : List Int} (h1 : pMvs kinds bs = none) : pRows kinds rules (s + 1) bs = none := by rw [pRows_succ, h1]; rfl
theorem pRows_no2 {kinds rules s : Nat} {bs r : List Int} {ms : List Mv} (h1 : pMvs kinds bs = some (ms, r)) (h2 : pGos rules r = none) : pRows kinds rules (s + 1) bs = none := by rw [pRows_succ, h1]; simp [h2]
theorem map_none_iff {α β : Type} {f : α → β} {o : Option α} (h : o.map f = none) : o = none := by cases o <;> simp_all
/-! ### what was read -/
theorem pMvs_is : ∀ (k : Nat) (bs r : List Int) (ms : List Mv), Bytes bs → pMvs k bs = some (ms, r) → bs = mvsB ms ++ r ∧ ms.length = k ∧ ∀ m ∈ ms, okMv m
  | 0, bs, r, ms, _, h => by
    simp only [pMvs, Option.some.injEq, Prod.mk.injEq] at h
    obtain ⟨rfl, rfl⟩ := h
    exact ⟨rfl, rfl, fun m hm => by simp at hm⟩
  | k + 1, bs, r, ms, hB, h => by
    unfold pMvs at h
    rw [Option.bind_eq_some_iff] at h
    obtain ⟨⟨d, r1⟩, h1, h⟩ := h
    rw [Option.bind_eq_some_iff] at h
    obtain ⟨⟨n, r2⟩, h2, h⟩ := h
    obtain ⟨⟨xs, r3⟩, h3, h⟩ := Option.map_eq_some_iff.1 h
    simp only [Prod.mk.injEq] at h
    obtain ⟨rfl, rfl⟩ := h
    dsimp only at h2 h3
    obtain ⟨e1, l1⟩ := num_is hB h1
    subst e1
    obtain ⟨e2, l2⟩ := num_is hB.right h2
    subst e2
    obtain ⟨e3, l3, l4⟩ := pMvs_is k r2 r3 xs hB.right.right h3
    subst e3
    refine ⟨?_, by simp [l3], fun m hm => ?_⟩
    · show _ = mvB _ ++ mvsB xs ++ r3
      rw [mvB]
      simp only [Int.toNat_natCast, List.append_assoc]
    · rcases List.mem_cons.1 hm with rfl | hm
      · exact ⟨by dsimp only; omega, by dsimp only; omega, by dsimp only; omega, by dsimp only; omega⟩
      · exact l4 m hm
theorem pGos_is : ∀ (k : Nat) (bs r : List Int) (gs : List Int), Bytes bs → pGos k bs = some (gs, r) → bs = gosB gs ++ r ∧ gs.length = k ∧ ∀ x ∈ gs, okGo x
  | 0, bs, r, ms, _, h => by
    simp only [pGos, Option.some.injEq, Prod.mk.injEq] at h
    obtain ⟨rfl, rfl⟩ := h
    exact ⟨rfl, rfl, fun m hm => by simp at hm⟩
  | k + 1, bs, r, ms, hB, h => by
    unfold pGos at h
    rw [Option.bind_eq_some_iff] at h
    obtain ⟨⟨d, r1⟩, h1, h⟩ := h
    obtain ⟨⟨xs, r3⟩, h3, h⟩ := Option.map_eq_some_iff.1 h
    simp only [Prod.mk.injEq] at h
    obtain ⟨rfl, rfl⟩ := h
    dsimp only at h3
    obtain ⟨e1, l1⟩ := num_is hB h1
    subst e1
    obtain ⟨e3, l3, l4⟩ := pGos_is k r1 r3 xs hB.right h3
    subst e3
    refine ⟨?_, by simp [l3], fun m hm => ?_⟩
    · show _ = goB _ ++ gosB xs ++ r3
      rw [goB, show (d : Int) - 1 + 1 = d by omega, Int.toNat_natCast]
      simp only [List.append_assoc]
    · rcases List.mem_cons.1 hm with rfl | hm
      · exact ⟨by omega, by omega⟩
      · exact l4 m hm
/-- All rows' bytes. -/
def zipB : List (List Mv) → List (List Int) → List Int
  | m :: ms, g :: gs => mvsB m ++ gosB g ++ zipB ms gs
  | _, _ => []
theorem pRows_is {kinds rules : Nat} : ∀ (s : Nat) (bs r : List Int) (t : Tb), Bytes bs → pRows kinds rules s bs = some (t, r) →
    bs = zipB t.mv t.go ++ r ∧ t.mv.length = s ∧ t.go.length = s ∧ (∀ x ∈ t.mv, x.length = kinds ∧ ∀ m ∈ x, okMv m) ∧ ∀ x ∈ t.go, x.length = rules ∧ ∀ g ∈ x, okGo g
  | 0, bs, r, t, _, h => by
    simp only [pRows, Option.some.injEq, Prod.mk.injEq] at h
    obtain ⟨rfl, rfl⟩ := h
    exact ⟨rfl, rfl, rfl, fun m hm => by simp at hm, fun m hm => by simp at hm⟩
  | s + 1, bs, r, t, hB, h => by
    unfold pRows at h
    rw [Option.bind_eq_some_iff] at h
    obtain ⟨⟨ms, r1⟩, h1, h⟩ := h
    rw [Option.bind_eq_some_iff] at h
    obtain ⟨⟨gs, r2⟩, h2, h⟩ := h
    obtain ⟨⟨xs, r3⟩, h3, h⟩ := Option.map_eq_some_iff.1 h
    simp only [Prod.mk.injEq] at h
    obtain ⟨rfl, rfl⟩ := h
    dsimp only at h2 h3
    obtain ⟨e1, l1, o1⟩ := pMvs_is kinds bs r1 ms hB h1
    subst e1
    obtain ⟨e2, l2, o2⟩ := pGos_is rules r1 r2 gs hB.right h2
    subst e2
    obtain ⟨e3, l3, l4, l5, l6⟩ := pRows_is s r2 r3 xs hB.right.right h3
    subst e3
    refine ⟨by simp only [zipB, List.append_assoc], by simp [l3], by simp [l4], fun x hx => ?_, fun x hx => ?_⟩
    · rcases List.mem_cons.1 hx with rfl | hx
      · exact ⟨l1, o1⟩
      · exact l5 x hx
    · rcases List.mem_cons.1 hx with rfl | hx
      · exact ⟨l2, o2⟩
      · exact l6 x hx
theorem zipB_rows : ∀ (ms : List (List Mv)) (gs : List (List Int)), gs.length = ms.length → zipB ms gs = (List.range ms.length).flatMap fun s => mvsB (ms.getD s []) ++ gosB (gs.getD s [])
  | [], [], _ => rfl
  | [], _ :: _, h => by simp at h
  | _ :: _, [], h => by simp at h
  | m :: ms, g :: gs, h => by
    rw [zipB, zipB_rows ms gs (by simpa using h), List.length_cons, List.range_succ_eq_map, List.flatMap_cons, List.flatMap_map]
    rfl
theorem zipB_tb {t : Tb} (h : t.go.length = t.mv.length) : zipB t.mv t.go = rowsB t t.mv.length := zipB_rows t.mv t.go h
/-! ### and back -/
theorem pMvs_of : ∀ (ms : List Mv) (r : List Int), (∀ m ∈ ms, okMv m) → pMvs ms.length (mvsB ms ++ r) = some (ms, r)
  | [], r, _ => rfl
  | m :: ms, r, h => by
    obtain ⟨h1, h2, h3, h4⟩ := h m (List.mem_cons_self ..)
    have ih := pMvs_of ms r fun x hx => h x (List.mem_cons_of_mem _ hx)
    have e : mvsB (m :: ms) ++ r = vint m.d.toNat ++ (vint m.n.toNat ++ (mvsB ms ++ r)) := by
      show mvB m ++ mvsB ms ++ r = _
      rw [mvB]
      simp only [List.append_assoc]
    rw [e, List.length_cons]
    unfold pMvs
    rw [num_vint _ (by omega)]
    simp only [Option.bind_some, num_vint (n := m.n.toNat) _ (by omega), ih, Option.map_some, Int.toNat_of_nonneg h1, Int.toNat_of_nonneg h3]
theorem pGos_of : ∀ (gs : List Int) (r : List Int), (∀ x ∈ gs, okGo x) → pGos gs.length (gosB gs ++ r) = some (gs, r)
  | [], r, _ => rfl
  | x :: gs, r, h => by
    obtain ⟨h1, h2⟩ := h x (List.mem_cons_self ..)
    have ih := pGos_of gs r fun x hx => h x (List.mem_cons_of_mem _ hx)
    have e : gosB (x :: gs) ++ r = vint (x + 1).toNat ++ (gosB gs ++ r) := by
      show goB x ++ gosB gs ++ r = _
      rw [goB, List.append_assoc]
    rw [e, List.length_cons]
    unfold pGos
    rw [num_vint _ (by omega)]
    simp only [Option.bind_some, ih, Option.map_some, Int.toNat_of_nonneg (show 0 ≤ x + 1 by omega), show x + 1 - 1 = x by omega]
theorem pRows_of {kinds rules : Nat} : ∀ (ms : List (List Mv)) (gs : List (List Int)) (r : List Int), gs.length = ms.length → (∀ x ∈ ms, x.length = kinds ∧ ∀ m ∈ x, okMv m) → (∀ x ∈ gs, x.length = rules ∧ ∀ g ∈ x, okGo g) → pRows kinds rules ms.length (zipB ms gs ++ r) = some (⟨ms, gs⟩, r)
  | [], [], r, _, _, _ => rfl
  | [], _ :: _, _, h, _, _ => by simp at h
  | _ :: _, [], _, h, _, _ => by simp at h
  | m :: ms, g :: gs, r, h, hm, hg => by
    have ih := pRows_of (kinds := kinds) (rules := rules) ms gs r (by simpa using h) (fun x hx => hm x (List.mem_cons_of_mem _ hx)) (fun x hx => hg x (List.mem_cons_of_mem _ hx))
    obtain ⟨m1, m2⟩ := hm m (List.mem_cons_self ..)
    obtain ⟨g1, g2⟩ := hg g (List.mem_cons_self ..)
    have e : zipB (m :: ms) (g :: gs) ++ r = mvsB m ++ (gosB g ++ (zipB ms gs ++ r)) := by simp only [zipB, List.append_assoc]
    rw [e, List.length_cons]
    unfold pRows
    rw [← m1, pMvs_of m _ m2]
    simp only [Option.bind_some]
    rw [← g1, pGos_of g _ g2]
    simp only [Option.bind_some]
    rw [m1, g1, ih]
    rfl
/-- A table read: the numbers of its states, kinds and rules, the table, and what is left. -/
def pAll (bs : List Int) : Option ((Nat × Nat × Nat) × Tb × List Int) :=
  (num bs).bind fun a => (num a.2).bind fun b => (num b.2).bind fun c => (pRows b.1 c.1 a.1 c.2).map fun x => ((a.1, b.1, c.1), x)
theorem pAll_is {bs r : List Int} {s k u : Nat} {t : Tb} (hB : Bytes bs) (h : pAll bs = some ((s, k, u), t, r)) :
    bs = vint s ++ vint k ++ vint u ++ rowsB t t.mv.length ++ r ∧ t.mv.length = s ∧ t.go.length = s ∧ (∀ x ∈ t.mv, x.length = k ∧ ∀ m ∈ x, okMv m) ∧ ∀ x ∈ t.go, x.length = u ∧ ∀ g ∈ x, okGo g := by
  unfold pAll at h
  rw [Option.bind_eq_some_iff] at h
  obtain ⟨⟨a, r1⟩, h1, h⟩ := h
  rw [Option.bind_eq_some_iff] at h
  obtain ⟨⟨b, r2⟩, h2, h⟩ := h
  rw [Option.bind_eq_some_iff] at h
  obtain ⟨⟨c, r3⟩, h3, h⟩ := h
  obtain ⟨⟨xs, r4⟩, h4, h⟩ := Option.map_eq_some_iff.1 h
  simp only [Prod.mk.injEq] at h
  obtain ⟨⟨rfl, rfl, rfl⟩, rfl, rfl⟩ := h
  dsimp only at h2 h3 h4
  obtain ⟨e1, _⟩ := num_is hB h1
  subst e1
  obtain ⟨e2, _⟩ := num_is hB.right h2
  subst e2
  obtain ⟨e3, _⟩ := num_is hB.right.right h3
  subst e3
  obtain ⟨e4, l1, l2, l3, l4⟩ := pRows_is _ _ _ _ hB.right.right.right h4
  subst e4
  refine ⟨?_, l1, l2, l3, l4⟩
  rw [zipB_tb (by omega)]
  simp only [List.append_assoc]
theorem pAll_by {bs r : List Int} {s k u : Nat} {t : Tb} (hB : Bytes bs) (h : pAll bs = some ((s, k, u), t, r)) (hR : Rect t) : bs = tbB t ++ r ∧ ByOk t := by
  obtain ⟨h1, h2, h3, h4, h5⟩ := pAll_is hB h
  obtain ⟨r1, r2, r3, r4⟩ := hR
  have hk : (t.mv.getD 0 []).length = k := (h4 _ (getD_mem r1)).1
  have hu : (t.go.getD 0 []).length = u := (h5 _ (getD_mem (by omega))).1
  refine ⟨?_, ⟨r1, r2, r3, r4⟩, fun q hq => ⟨(h4 _ (getD_mem hq)).2, (h5 _ (getD_mem (by omega))).2⟩⟩
  rw [h1, tbB, headB, hk, hu, h2]
theorem pAll_of {t : Tb} (hb : BSm t) (h : ByOk t) : pAll (tbB t) = some ((t.mv.length, (t.mv.getD 0 []).length, (t.go.getD 0 []).length), t, []) := by
  obtain ⟨⟨r1, r2, r3, r4⟩, hok⟩ := h
  have q1 := hb.m
  have q2 := hb.ml (i := 0) r1
  have q3 := hb.gl (i := 0) (by omega)
  have e : tbB t = vint t.mv.length ++ (vint (t.mv.getD 0 []).length ++ (vint (t.go.getD 0 []).length ++ (zipB t.mv t.go ++ []))) := by
    rw [tbB, headB, zipB_tb r3, List.append_nil]
    simp only [List.append_assoc]
  have hm : ∀ x ∈ t.mv, x.length = (t.mv.getD 0 []).length ∧ ∀ m ∈ x, okMv m := fun x hx => by
    obtain ⟨j, hj, rfl⟩ := List.mem_iff_getElem.1 hx
    have e1 : t.mv.getD j [] = t.mv[j] := by rw [List.getD_eq_getElem?_getD, List.getElem?_eq_getElem hj]; rfl
    have h1 := (r4 j hj).1
    have h2 := (hok j hj).1
    rw [e1] at h1 h2
    exact ⟨h1, h2⟩
  have hg : ∀ x ∈ t.go, x.length = (t.go.getD 0 []).length ∧ ∀ g ∈ x, okGo g := fun x hx => by
    obtain ⟨j, hj, rfl⟩ := List.mem_iff_getElem.1 hx
    have e1 : t.go.getD j [] = t.go[j] := by rw [List.getD_eq_getElem?_getD, List.getElem?_eq_getElem hj]; rfl
    have h1 := (r4 j (by omega)).2
    have h2 := (hok j (by omega)).2
    rw [e1] at h1 h2
    exact ⟨h1, h2⟩
  rw [e, pAll, num_vint _ (by omega)]
  simp only [Option.bind_some, num_vint (n := (t.mv.getD 0 []).length) _ (by omega), num_vint (n := (t.go.getD 0 []).length) _ (by omega), pRows_of t.mv t.go [] r3 hm hg, Option.map_some]
/-- What the program reads. -/
noncomputable def readP (bs : List Int) : Option Tb := (pAll bs).bind fun x => if dec (x.2.2 = [] ∧ Rect x.2.1) then some x.2.1 else none
/-- What the document reads. -/
noncomputable def readR (bs : List Int) : Option Tb := (pAll bs).bind fun x => if dec ((x.1.1 ≤ bs.length ∧ x.1.2.1 ≤ bs.length ∧ x.1.2.2 ≤ bs.length) ∧ ByOk x.2.1 ∧ tbB x.2.1 = bs) then some x.2.1 else none
theorem flat_ge {α : Type} (f : α → List Int) (c : Nat) : ∀ xs : List α, (∀ x ∈ xs, c ≤ (f x).length) → c * xs.length ≤ (xs.flatMap f).length
  | [], _ => by simp
  | x :: xs, h => by
    have h1 := flat_ge f c xs fun y hy => h y (List.mem_cons_of_mem _ hy)
    have h2 := h x (List.mem_cons_self ..)
    rw [List.flatMap_cons, List.length_append, List.length_cons, Nat.mul_succ]
    omega
theorem tbB_ge {t : Tb} (h : ByOk t) : t.mv.length ≤ (tbB t).length ∧ (t.mv.getD 0 []).length ≤ (tbB t).length ∧ (t.go.getD 0 []).length ≤ (tbB t).length := by
  obtain ⟨⟨r1, r2, r3, r4⟩, _⟩ := h
  have h0 : (rowB t 0).length ≤ (rowsB t t.mv.length).length := by
    obtain ⟨n, hn⟩ : ∃ n, t.mv.length = n + 1 := ⟨t.mv.length - 1, by omega⟩
    rw [rowsB, hn, List.range_succ_eq_map, List.flatMap_cons, List.length_append]
    omega
  have h1 : 2 * (t.mv.getD 0 []).length ≤ (mvsB (t.mv.getD 0 [])).length := flat_ge mvB 2 _ fun m _ => by
    have h1 := vint_pos m.d.toNat
    have h2 := vint_pos m.n.toNat
    rw [mvB, List.length_append]
    omega
  have h2 : 1 * (t.go.getD 0 []).length ≤ (gosB (t.go.getD 0 [])).length := flat_ge goB 1 _ fun x _ => vint_pos _
  have h3 : 1 * (List.range t.mv.length).length ≤ (rowsB t t.mv.length).length := flat_ge (rowB t) 1 _ fun s hs => by
    rw [List.mem_range] at hs
    have h5 : 2 * (t.mv.getD s []).length ≤ (mvsB (t.mv.getD s [])).length := flat_ge mvB 2 _ fun m _ => by
      have h1 := vint_pos m.d.toNat
      have h2 := vint_pos m.n.toNat
      rw [mvB, List.length_append]
      omega
    have h6 := (r4 s hs).1
    rw [rowB, List.length_append]
    omega
  rw [List.length_range] at h3
  rw [rowB, List.length_append] at h0
  rw [tbB, List.length_append]
  omega
theorem read_eq {bs : List Int} (hB : Bytes bs) : readP bs = readR bs := by
  unfold readP readR
  cases h : pAll bs with
  | none => rfl
  | some x =>
    obtain ⟨⟨s, k, u⟩, t, r⟩ := x
    simp only [Option.bind_some]
    rw [dec_iff (show (r = [] ∧ Rect t) ↔ ((s ≤ bs.length ∧ k ≤ bs.length ∧ u ≤ bs.length) ∧ ByOk t ∧ tbB t = bs) from ⟨fun ⟨h1, h2⟩ => ?_, fun ⟨_, h2, h3⟩ => ?_⟩)]
    · obtain ⟨e1, e2⟩ := pAll_by hB h h2
      subst h1
      rw [List.append_nil] at e1
      obtain ⟨_, l1, l2, l3, l4⟩ := pAll_is hB h
      obtain ⟨g1, g2, g3⟩ := tbB_ge e2
      have hk : (t.mv.getD 0 []).length = k := (l3 _ (getD_mem h2.1)).1
      have hu : (t.go.getD 0 []).length = u := (l4 _ (getD_mem (by have := h2.2.2.1; have := h2.1; omega))).1
      rw [← e1] at g1 g2 g3
      exact ⟨⟨by omega, by omega, by omega⟩, e2, e1.symm⟩
    · obtain ⟨e1, _⟩ := pAll_by hB h h2.1
      refine ⟨?_, h2.1⟩
      have h4 := congrArg List.length e1
      rw [List.length_append, h3] at h4
      exact List.eq_nil_of_length_eq_zero (by omega)
theorem readP_some {bs : List Int} {t : Tb} (hB : Bytes bs) (h : readP bs = some t) : ByOk t ∧ tbB t = bs := by
  rw [read_eq hB] at h
  unfold readR at h
  rw [Option.bind_eq_some_iff] at h
  obtain ⟨x, _, h⟩ := h
  split at h
  · rename_i hc
    injection h with h
    subst h
    exact (of_dec hc).2
  · cases h
theorem readP_of {t : Tb} (hb : BSm t) (h : ByOk t) : readP (tbB t) = some t := by
  unfold readP
  rw [pAll_of hb h]
  simp only [Option.bind_some]
  rw [if_pos (dec_t ⟨trivial, h.1⟩)]
theorem mvsB_bytes (ms : List Mv) : Bytes (mvsB ms) := fun x hx => by
  obtain ⟨m, _, h⟩ := List.mem_flatMap.1 hx
  rcases List.mem_append.1 h with h | h
  · exact vint_bytes _ x h
  · exact vint_bytes _ x h
theorem gosB_bytes (gs : List Int) : Bytes (gosB gs) := fun x hx => by
  obtain ⟨m, _, h⟩ := List.mem_flatMap.1 hx
  exact vint_bytes _ x h
theorem tbB_bytes (t : Tb) : Bytes (tbB t) := fun x hx => by
  rcases List.mem_append.1 hx with h | h
  · rcases List.mem_append.1 h with h | h
    · rcases List.mem_append.1 h with h | h
      · exact vint_bytes _ x h
      · exact vint_bytes _ x h
    · exact vint_bytes _ x h
  · obtain ⟨s, _, h⟩ := List.mem_flatMap.1 h
    rcases List.mem_append.1 h with h | h
    · exact mvsB_bytes _ x h
    · exact gosB_bytes _ x h
/-! ### bytes as text -/
theorem strOf_inj {xs ys : List Int} (hx : Bytes xs) (hy : Bytes ys) (h : strOfNums xs = strOfNums ys) : xs = ys := by
  have h1 : (xs.map fun n => UInt8.ofNat n.toNat) = ys.map fun n => UInt8.ofNat n.toNat := by
    have := congrArg (fun s : ByteArray => s.data.toList) h
    simpa [strOfNums] using this
  clear h
  induction xs generalizing ys with
  | nil => cases ys <;> simp_all
  | cons x xs ih =>
    cases ys with
    | nil => simp at h1
    | cons y ys =>
      simp only [List.map_cons, List.cons.injEq] at h1
      have hx0 := hx x (List.mem_cons_self ..)
      have hy0 := hy y (List.mem_cons_self ..)
      have e : x = y := by
        have := congrArg UInt8.toNat h1.1
        simp only [UInt8.toNat_ofNat'] at this
        omega
      rw [e, ih (fun z hz => hx z (List.mem_cons_of_mem _ hz)) (fun z hz => hy z (List.mem_cons_of_mem _ hz)) h1.2]
section
variable {P : Program} {n : Nat} {l : Fr} {w : World} {x : Operand} {ty t t2 e : TypeId} {pos : String} {af : Array Edge} {gd : Option (Nat × Bool)} {dst : Option Tmp} {A : Option Addr} {c : Nat} {xs : List Int}
theorem v_b2s (hs : P.underlying t = some (.slice e)) (he : P.underlying e = some (.int .u8)) (hd : P.underlying t2 = some .string) (hr : Rd (kInt .u8) w A xs) (hx : ev l x = some (.slice A xs.length c)) : Vs P n l ⟨dst, .convert t t2 x, ty, pos, af, gd⟩ w (.string (strOfNums xs)) := fun a ha => by
  rcases Nat.eq_zero_or_pos xs.length with h0 | h0
  · have hnil := List.eq_nil_of_length_eq_zero h0
    subst hnil
    cases A with
    | none => simp [execOp, ha.eval hx, run_convert_bytes_nil w t e hs he 0 c t2 hd]; rfl
    | some ad =>
      have hl : (loadCells ad 0).run P w = .ok (([] : List Int).map (Value.int .u8)).toArray w := by
        have := run_loadCells_list (P := P) w ad [] (fun j v hj => by simp at hj)
        simpa using this
      simp only [execOp, ha.eval hx, Sem.run_bind, List.length_nil]
      rw [run_convert_bytes_string w t t2 e _ 0 c hs he hd, run_bytesToString w _ 0 c [] hl]
      rfl
  · have hA := hr.ad h0
    have hl : (loadCells (adr A) xs.length).run P w = .ok (xs.map (Value.int .u8)).toArray w := by
      have := run_loadCells_list (P := P) w (adr A) (xs.map (Value.int .u8)) (fun j v hj => by
        rw [List.getElem?_map] at hj
        obtain ⟨y, hy, rfl⟩ := Option.map_eq_some_iff.1 hj
        obtain ⟨cs, rfl, hc⟩ := hr.el j y hy
        have := hc 0 _ rfl
        have e1 : j * (kInt .u8).sz + 0 = j := Nat.mul_one j
        rwa [e1] at this)
      simpa using this
    rw [hA] at hx
    simp only [execOp, ha.eval hx, Sem.run_bind]
    rw [run_convert_bytes_string w t t2 e _ xs.length c hs he hd, run_bytesToString w _ xs.length c xs hl, foldl_push_bytes]
    simp [strOfNums, ByteArray.empty, ByteArray.emptyWithCapacity]
    rfl
end
end Go.Proofs.YtkpehkadammppaaFx

/-! How a reading of bytes goes on: what is so of its state. -/
namespace Go.Proofs.YtkpehkadammppaaFx
open Go Go.RowKit
/-- One number more. -/
structure Nx (b0 : List Int) (bad0 : Bool) (n : Nat) (b1 : List Int) (bad1 : Bool) : Prop where
  good : bad1 = false → bad0 = false ∧ num b0 = some (n, b1) ∧ b1.length < b0.length
  bad : bad1 = true → bad0 = true ∨ num b0 = none
  le : n ≤ 2147483647
  byt : Bytes b1
  len : b1.length ≤ b0.length
theorem numS_nx {b0 : List Int} (bad : Bool) (hB : Bytes b0) : Nx b0 bad (numS b0 bad).1 (numS b0 bad).2.1 (numS b0 bad).2.2 := by
  cases h : num b0 with
  | none =>
    rw [numS_none h]
    exact ⟨fun h => (by cases h), fun _ => .inr h, Nat.zero_le _, hB, Nat.le_refl _⟩
  | some x =>
    obtain ⟨n, r⟩ := x
    obtain ⟨h1, h2, h3⟩ := num_rest hB h
    rw [numS_some h]
    exact ⟨fun hb => ⟨hb, h, h2⟩, fun hb => .inl hb, h3, h1, Nat.le_of_lt h2⟩
theorem nxtS_nx {bs : List Int} {a : Nat} (bad : Bool) (hB : Bytes bs) (ha : a ≤ bs.length) : Nx (bs.drop a) bad (nxtS bs a bad).1 (bs.drop (nxtS bs a bad).2.1) (nxtS bs a bad).2.2 ∧ (nxtS bs a bad).2.1 ≤ bs.length := by
  cases bad
  · cases h : num (bs.drop a) with
    | none =>
      rw [nxtS_none h]
      exact ⟨⟨fun h => (by cases h), fun _ => .inr h, Nat.zero_le _, hB.drop _, Nat.le_refl _⟩, ha⟩
    | some x =>
      obtain ⟨n, r⟩ := x
      obtain ⟨h1, h2, h3⟩ := num_rest (hB.drop a) h
      obtain ⟨e1, e2⟩ := nxt_at ha h
      rw [nxtS_some h]
      dsimp only
      rw [e1]
      exact ⟨⟨fun _ => ⟨rfl, h, h2⟩, fun hb => (by cases hb), h3, h1, Nat.le_of_lt h2⟩, by omega⟩
  · rw [nxtS_bad]
    exact ⟨⟨fun h => (by cases h), fun _ => .inl rfl, Nat.zero_le _, hB.drop _, Nat.le_refl _⟩, ha⟩
/-- Moves read so far. -/
structure PM (k : Nat) (b0 : List Int) (ms : List Mv) (b1 : List Int) (bad : Bool) : Prop where
  byt : Bytes b1
  len : b1.length ≤ b0.length
  sz : 2 * ms.length ≤ b0.length + 2
  ok : ∀ m ∈ ms, I64 m.d ∧ I64 m.n
  good : bad = false → ms.length ≤ k ∧ pMvs k b0 = (pMvs (k - ms.length) b1).map (preM ms) ∧ 2 * ms.length + b1.length ≤ b0.length
  bad : bad = true → pMvs k b0 = none
theorem map_id' {α : Type} {f : α → α} (o : Option α) (h : ∀ x, f x = x) : o.map f = o := by cases o <;> simp [h]
theorem PM.start {b0 : List Int} (k : Nat) (hB : Bytes b0) : PM k b0 [] b0 false :=
  ⟨hB, Nat.le_refl _, by simp, fun m hm => (by simp at hm), fun _ => ⟨Nat.zero_le _, (map_id' _ fun x => rfl).symm, by simp⟩, fun h => (by cases h)⟩
theorem i64_nat {n : Nat} (h : n ≤ 2147483647) : I64 (n : Int) := ⟨by omega, by omega⟩
theorem PM.next {k : Nat} {b0 b1 b2 b3 : List Int} {ms : List Mv} {d n : Nat} {bad2 bad3 : Bool} (h : PM k b0 ms b1 false) (hk : ms.length < k) (q1 : Nx b1 false d b2 bad2) (q2 : Nx b2 bad2 n b3 bad3) : PM k b0 (ms ++ [⟨d, n⟩]) b3 bad3 := by
  obtain ⟨g1, g2, g3⟩ := h.good rfl
  have l1 := q1.len
  have l2 := q2.len
  obtain ⟨kk, hkk⟩ : ∃ kk, k - ms.length = kk + 1 := ⟨k - ms.length - 1, by omega⟩
  refine ⟨q2.byt, by omega, by rw [List.length_append, List.length_singleton]; omega, fun m hm => ?_, fun hb => ?_, fun hb => ?_⟩
  · rcases List.mem_append.1 hm with h1 | h1
    · exact h.ok m h1
    · rw [List.mem_singleton.1 h1]
      exact ⟨i64_nat q1.le, i64_nat q2.le⟩
  · obtain ⟨e1, e2, e3⟩ := q2.good hb
    obtain ⟨_, e4, e5⟩ := q1.good e1
    rw [List.length_append, List.length_singleton]
    refine ⟨by omega, ?_, by omega⟩
    rw [g2, hkk, pMvs_step e4 e2]
    congr 2
    omega
  · rw [g2, hkk]
    rcases q2.bad hb with h1 | h1
    · rcases q1.bad h1 with h2 | h2
      · cases h2
      · rw [pMvs_no1 h2]; rfl
    · rcases Bool.eq_false_or_eq_true bad2 with h3 | h3
      · rcases q1.bad h3 with h2 | h2
        · cases h2
        · rw [pMvs_no1 h2]; rfl
      · obtain ⟨_, e4, _⟩ := q1.good h3
        rw [pMvs_no2 e4 h1]; rfl
/-- Gotos read so far. -/
structure PG (u : Nat) (b0 : List Int) (bad0 : Bool) (gs : List Int) (b1 : List Int) (bad : Bool) : Prop where
  byt : Bytes b1
  len : b1.length ≤ b0.length
  sz : gs.length ≤ b0.length + 1
  ok : ∀ x ∈ gs, I64 x
  good : bad = false → bad0 = false ∧ gs.length ≤ u ∧ pGos u b0 = (pGos (u - gs.length) b1).map (preG gs) ∧ gs.length + b1.length ≤ b0.length
  bad : bad = true → bad0 = true ∨ pGos u b0 = none
theorem PG.start {b0 : List Int} (u : Nat) (bad0 : Bool) (hB : Bytes b0) : PG u b0 bad0 [] b0 bad0 :=
  ⟨hB, Nat.le_refl _, by simp, fun m hm => (by simp at hm), fun hb => ⟨hb, Nat.zero_le _, (map_id' _ fun x => rfl).symm, by simp⟩, fun h => .inl h⟩
theorem PG.next {u : Nat} {b0 b1 b2 : List Int} {gs : List Int} {d : Nat} {bad0 bad2 : Bool} (h : PG u b0 bad0 gs b1 false) (hk : gs.length < u) (q1 : Nx b1 false d b2 bad2) : PG u b0 bad0 (gs ++ [(d : Int) - 1]) b2 bad2 := by
  obtain ⟨g0, g1, g2, g3⟩ := h.good rfl
  have l1 := q1.len
  have ll := q1.le
  obtain ⟨kk, hkk⟩ : ∃ kk, u - gs.length = kk + 1 := ⟨u - gs.length - 1, by omega⟩
  refine ⟨q1.byt, by omega, by rw [List.length_append, List.length_singleton]; omega, fun m hm => ?_, fun hb => ?_, fun hb => ?_⟩
  · rcases List.mem_append.1 hm with h1 | h1
    · exact h.ok m h1
    · rw [List.mem_singleton.1 h1]
      exact ⟨by omega, by omega⟩
  · obtain ⟨_, e4, e5⟩ := q1.good hb
    rw [List.length_append, List.length_singleton]
    refine ⟨g0, by omega, ?_, by omega⟩
    rw [g2, hkk, pGos_step e4]
    congr 2
    omega
  · rcases q1.bad hb with h2 | h2
    · cases h2
    · refine .inr ?_
      rw [g2, hkk, pGos_no h2]; rfl
/-- Rows read so far. -/
structure PR (bs : List Int) (n k u : Nat) (t : Tb) (b1 : List Int) (bad : Bool) : Prop where
  byt : Bytes b1
  len : b1.length ≤ bs.length
  go : t.go.length = t.mv.length
  sz : t.mv.length ≤ bs.length + 1
  okm : ∀ r ∈ t.mv, r.length ≤ bs.length + 2 ∧ ∀ m ∈ r, I64 m.d ∧ I64 m.n
  okg : ∀ r ∈ t.go, r.length ≤ bs.length + 2 ∧ ∀ x ∈ r, I64 x
  good : bad = false → t.mv.length ≤ n ∧ pAll bs = ((pRows k u (n - t.mv.length) b1).map (preT t)).map (fun x => ((n, k, u), x)) ∧ (t.mv.length + b1.length ≤ bs.length ∨ n ≤ bs.length)
  bad : bad = true → ∀ x, pAll bs = some x → x.1.2.1 = 0
theorem PR.start {bs b1 b2 b3 : List Int} {n k u : Nat} {bad1 bad2 bad3 : Bool} (q1 : Nx bs false n b1 bad1) (q2 : Nx b1 bad1 k b2 bad2) (q3 : Nx b2 bad2 u b3 bad3) : PR bs n k u ⟨[], []⟩ b3 bad3 := by
  have l1 := q1.len
  have l2 := q2.len
  have l3 := q3.len
  have hno : ∀ b : Bool, b = false ∨ b = true := fun b => by cases b <;> simp
  refine ⟨q3.byt, by omega, rfl, by simp, fun r hr => (by simp at hr), fun r hr => (by simp at hr), fun hb => ?_, fun hb x hx => ?_⟩
  · obtain ⟨e1, e2, e3⟩ := q3.good hb
    obtain ⟨e4, e5, e6⟩ := q2.good e1
    obtain ⟨_, e7, e8⟩ := q1.good e4
    refine ⟨Nat.zero_le _, ?_, .inl (by simp; omega)⟩
    unfold pAll
    rw [e7]
    simp only [Option.bind_some, e5, e2]
    rw [map_id' (f := preT ⟨[], []⟩) _ fun x => rfl]
    rfl
  · exfalso
    unfold pAll at hx
    rcases hno bad1 with h1 | h1
    · obtain ⟨_, e7, _⟩ := q1.good h1
      rw [e7] at hx
      simp only [Option.bind_some] at hx
      rcases hno bad2 with h2 | h2
      · obtain ⟨_, e5, _⟩ := q2.good h2
        rw [e5] at hx
        simp only [Option.bind_some] at hx
        rcases q3.bad hb with h3 | h3
        · rw [h2] at h3; cases h3
        · rw [h3] at hx; cases hx
      · rcases q2.bad h2 with h3 | h3
        · rw [h1] at h3; cases h3
        · rw [h3] at hx; cases hx
    · rcases q1.bad h1 with h3 | h3
      · cases h3
      · rw [h3] at hx; cases hx
/-- A row more; the program calls rows of no kind bad. -/
theorem PR.next {bs b1 b2 b3 : List Int} {n k u : Nat} {t : Tb} {ms : List Mv} {gs : List Int} {bad2 bad3 bad4 : Bool} (h : PR bs n k u t b1 false) (hn : t.mv.length < n) (hm : PM k b1 ms b2 bad2) (hmk : bad2 = false → k ≤ ms.length) (hg : PG u b2 bad2 gs b3 bad3) (hgk : bad3 = false → u ≤ gs.length)
    (h4 : bad4 = false → bad3 = false ∧ (k ≠ 0 ∨ n ≤ bs.length)) (h5 : bad4 = true → bad3 = true ∨ k = 0) : PR bs n k u ⟨t.mv ++ [ms], t.go ++ [gs]⟩ b3 bad4 := by
  obtain ⟨g1, g2, g3⟩ := h.good rfl
  have l0 := h.len
  have l1 := hm.len
  have l2 := hg.len
  have lm := hm.sz
  have lg := hg.sz
  have hgo := h.go
  obtain ⟨kk, hkk⟩ : ∃ kk, n - t.mv.length = kk + 1 := ⟨n - t.mv.length - 1, by omega⟩
  refine ⟨hg.byt, by omega, by simp [hgo], ?_, fun r hr => ?_, fun r hr => ?_, fun hb => ?_, fun hb x hx => ?_⟩
  · show (t.mv ++ [ms]).length ≤ _
    rw [List.length_append, List.length_singleton]
    omega
  · rcases List.mem_append.1 hr with h1 | h1
    · exact h.okm r h1
    · rw [List.mem_singleton.1 h1]
      exact ⟨by omega, hm.ok⟩
  · rcases List.mem_append.1 hr with h1 | h1
    · exact h.okg r h1
    · rw [List.mem_singleton.1 h1]
      exact ⟨by omega, hg.ok⟩
  · obtain ⟨e1, e0⟩ := h4 hb
    obtain ⟨e2, e3, e4, e5⟩ := hg.good e1
    obtain ⟨e6, e7, e8⟩ := hm.good e2
    have hmk' := hmk e2
    have hgk' := hgk e1
    have hm1 : pMvs k b1 = some (ms, b2) := by
      rw [e7, show k - ms.length = 0 by omega]
      simp [pMvs, preM]
    have hg1 : pGos u b2 = some (gs, b3) := by
      rw [e4, show u - gs.length = 0 by omega]
      simp [pGos, preG]
    show (t.mv ++ [ms]).length ≤ n ∧ pAll bs = ((pRows k u (n - (t.mv ++ [ms]).length) b3).map _).map _ ∧ ((t.mv ++ [ms]).length + b3.length ≤ bs.length ∨ n ≤ bs.length)
    rw [List.length_append, List.length_singleton]
    refine ⟨by omega, ?_, by omega⟩
    rw [g2, hkk, pRows_step hm1 hg1]
    congr 3
    omega
  · rcases h5 hb with h6 | h6
    · rw [g2, hkk] at hx
      have hno : pRows k u (kk + 1) b1 = none := by
        rcases Bool.eq_false_or_eq_true bad2 with h7 | h7
        · exact pRows_no1 (hm.bad h7)
        · obtain ⟨e6, e7, e8⟩ := hm.good h7
          have hm1 : pMvs k b1 = some (ms, b2) := by
            rw [e7, show k - ms.length = 0 by have := hmk h7; omega]
            simp [pMvs, preM]
          rcases hg.bad h6 with h8 | h8
          · rw [h7] at h8; cases h8
          · exact pRows_no2 hm1 h8
      rw [hno] at hx
      cases hx
    · rw [g2] at hx
      obtain ⟨y, _, rfl⟩ := Option.map_eq_some_iff.1 hx
      exact h6
theorem readP_bad {bs : List Int} (hB : Bytes bs) (h : ∀ x, pAll bs = some x → x.1.2.1 = 0) : readP bs = none := by
  unfold readP
  cases hp : pAll bs with
  | none => rfl
  | some x =>
    obtain ⟨⟨s, k, u⟩, t, r⟩ := x
    have hk := h _ hp
    dsimp only at hk
    subst hk
    obtain ⟨_, _, _, h4, _⟩ := pAll_is hB hp
    simp only [Option.bind_some]
    rw [dec_f]
    · rfl
    · rintro ⟨_, r1, r2, _⟩
      have := (h4 _ (getD_mem (z := []) r1)).1
      omega
theorem PR.all {bs b1 : List Int} {n k u : Nat} {t : Tb} (h : PR bs n k u t b1 false) (hn : n ≤ t.mv.length) : pAll bs = some ((n, k, u), t, b1) := by
  obtain ⟨g1, g2, g3⟩ := h.good rfl
  rw [g2, show n - t.mv.length = 0 by omega]
  simp [pRows, preT]
theorem PR.fin {bs b1 : List Int} {n k u : Nat} {t : Tb} (h : PR bs n k u t b1 false) (hn : n ≤ t.mv.length) : readP bs = if dec (b1 = [] ∧ Rect t) then some t else none := by
  rw [readP, h.all hn]
  rfl
theorem PR.finR {bs b1 : List Int} {n k u : Nat} {t : Tb} (h : PR bs n k u t b1 false) (hn : n ≤ t.mv.length) (h1 : n ≤ bs.length ∧ k ≤ bs.length ∧ u ≤ bs.length) : readR bs = if dec (ByOk t ∧ tbB t = bs) then some t else none := by
  rw [readR, h.all hn]
  simp only [Option.bind_some]
  rw [dec_iff (show ((n ≤ bs.length ∧ k ≤ bs.length ∧ u ≤ bs.length) ∧ ByOk t ∧ tbB t = bs) ↔ (ByOk t ∧ tbB t = bs) from ⟨fun h => h.2, fun h => ⟨h1, h⟩⟩)]
theorem PR.long {bs b1 : List Int} {n k u : Nat} {t : Tb} (h : PR bs n k u t b1 false) (h1 : ¬ (n ≤ bs.length ∧ k ≤ bs.length ∧ u ≤ bs.length)) : readR bs = none := by
  obtain ⟨g1, g2, g3⟩ := h.good rfl
  rw [readR, g2]
  cases (pRows k u (n - t.mv.length) b1).map (preT t) with
  | none => rfl
  | some x =>
    simp only [Option.map_some, Option.bind_some]
    rw [dec_f fun h => h1 h.1]
    rfl
theorem PR.tok {bs b1 : List Int} {n k u : Nat} {t : Tb} {bad : Bool} (h : PR bs n k u t b1 bad) (hl : bs.length ≤ 1048573) : BSm t := by
  have h1 := h.sz
  have h2 := h.go
  exact ⟨⟨by omega, by omega, fun r hr => ⟨by have := (h.okm r hr).1; omega, (h.okm r hr).2⟩, fun r hr => ⟨by have := (h.okg r hr).1; omega, (h.okg r hr).2⟩⟩, by omega, fun r hr => by have := (h.okm r hr).1; omega, fun r hr => by have := (h.okg r hr).1; omega⟩
theorem PR.tok2 {bs b1 : List Int} {n k u : Nat} {t : Tb} {bad : Bool} (h : PR bs n k u t b1 bad) (hl : bs.length ≤ 549755813888) : t.ok := by
  have h1 := h.sz
  have h2 := h.go
  exact ⟨by omega, by omega, fun r hr => ⟨by have := (h.okm r hr).1; omega, (h.okm r hr).2⟩, fun r hr => ⟨by have := (h.okg r hr).1; omega, (h.okg r hr).2⟩⟩
noncomputable def rdT (bs : List Int) : Tb := (readP bs).getD ⟨[], []⟩
noncomputable def rdE (bs : List Int) : Int := if (readP bs).isSome then 0 else 170
theorem rd_none {bs : List Int} (h : readP bs = none) : rdT bs = ⟨[], []⟩ ∧ rdE bs = 170 := by rw [rdT, rdE, h]; exact ⟨rfl, rfl⟩
theorem rd_some {bs : List Int} {t : Tb} (h : readP bs = some t) : rdT bs = t ∧ rdE bs = 0 := by rw [rdT, rdE, h]; exact ⟨rfl, rfl⟩
end Go.Proofs.YtkpehkadammppaaFx

/-! Equality of a pair of numbers of two types. -/
namespace Go.Proofs.YtkpehkadammppaaFx
open Go Go.RowKit
theorem eql_mv2 {P : Program} {t e e2 : TypeId} {k' k2 : IntKind} {f0 f1 : Field} (ht' : P.underlying t = some (.struct #[f0, f1])) (hp : P.stoodInHeld t = false) (hg : P.eqGuardType P.depth t = false) (he : P.underlying e = some (.int k')) (he2 : P.underlying e2 = some (.int k2)) (h0 : (f0.name != "_", f0.type, f0.offset) = (true, e, 0)) (h1 : (f1.name != "_", f1.type, f1.offset) = (true, e2, 1)) : EqlMv P t := by
  have hf0 : P.fieldsOf t = #[f0, f1] := by simp only [Program.fieldsOf, ht']
  have ht : P.underlying t = some (.struct (P.fieldsOf t)) := by rw [hf0]; exact ht'
  have hf : (P.fieldsOf t).toList = [f0, f1] := by rw [hf0]
  refine ⟨hg, fun W x y => ?_⟩
  rw [run_equalIn_struct W 9999 t _ _ ht hp, hf, eqf_step (d := 9998) (off := 0) (k := .i64) (a := x.d) (b := y.d) he h0 rfl rfl, eqf_step (d := 9998) (off := 1) (k := .i64) (a := x.n) (b := y.n) he2 h1 rfl rfl]
  obtain ⟨a, b⟩ := x
  obtain ⟨c, d⟩ := y
  by_cases hac : a = c <;> by_cases hbd : b = d <;> simp [hac, hbd, Op.eqFields]
end Go.Proofs.YtkpehkadammppaaFx

/-! Bytes compared; tables read are of memory's size. -/
namespace Go.Proofs.Ytkpehkadammppaa.EqualW
open Go Go.RowKit Go.Proofs.YtkpehkadammppaaFx 


theorem rdT_ok {bs : List Int} (hB : Bytes bs) (hl : bs.length ≤ 1048573) : (rdT bs).ok := by
  cases h : readP bs with
  | none =>
    rw [(rd_none h).1]
    exact ⟨by decide, by decide, fun r hr => by simp at hr, fun r hr => by simp at hr⟩
  | some t =>
    rw [(rd_some h).1]
    have h1 := h
    unfold readP at h1
    rw [Option.bind_eq_some_iff] at h1
    obtain ⟨⟨⟨s, k, u⟩, t', r⟩, h2, h3⟩ := h1
    obtain ⟨hby, htb⟩ := readP_some hB h
    split at h3
    · injection h3 with h3
      dsimp only at h3
      subst h3
      obtain ⟨_, l1, l2, l3, l4⟩ := pAll_is hB h2
      obtain ⟨g1, g2, g3⟩ := tbB_ge hby
      rw [htb] at g1 g2 g3
      have hk : (t'.mv.getD 0 []).length = k := (l3 _ (getD_mem hby.1.1)).1
      have hu : (t'.go.getD 0 []).length = u := (l4 _ (getD_mem (by have := hby.1.2.2.1; have := hby.1.1; omega))).1
      refine ⟨by omega, by omega, fun r hr => ⟨by have := (l3 r hr).1; omega, fun m hm => ?_⟩, fun r hr => ⟨by have := (l4 r hr).1; omega, fun x hx => ?_⟩⟩
      · obtain ⟨m1, m2, m3, m4⟩ := (l3 r hr).2 m hm
        exact ⟨⟨by omega, by omega⟩, ⟨by omega, by omega⟩⟩
      · obtain ⟨m1, m2⟩ := (l4 r hr).2 x hx
        exact ⟨by omega, by omega⟩
    · cases h3
theorem rdT_bsm {bs : List Int} {t : Tb} (hB : Bytes bs) (hl : bs.length ≤ 1048573) (h : readP bs = some t) : BSm t := by
  have hok := rdT_ok hB hl
  rw [(rd_some h).1] at hok
  obtain ⟨hby, htb⟩ := readP_some hB h
  obtain ⟨g1, g2, g3⟩ := tbB_ge hby
  rw [htb] at g1 g2 g3
  obtain ⟨⟨r1, r2, r3, r4⟩, _⟩ := hby
  refine ⟨hok, by omega, fun r hr => ?_, fun r hr => ?_⟩
  · obtain ⟨j, hj, rfl⟩ := mem_at [] hr
    have := (r4 j hj).1
    omega
  · obtain ⟨j, hj, rfl⟩ := mem_at [] hr
    have := (r4 j (by omega)).2
    omega

set_option maxRecDepth 100000 in
theorem equal_calls {A B : Option Addr} {ca cb : Nat} {xs ys : List Int} {w : World} (hx : Rd (kInt .u8) w A xs) (hy : Rd (kInt .u8) w B ys) (bx : Bytes xs) (by' : Bytes ys) :
    Calls Try.prog 31 #[.slice A xs.length ca, .slice B ys.length cb] w fun e w' => ∃ v, e = .returned v ∧ v = .bool (decide (xs = ys)) ∧ Holds w [] w' := by
  refine calls_of Try.func31 rfl Try.ntmps31 rfl ?_
  have H := Holds.start w
  refine wc_seq ?_
  refine wc_region ?_
  refine wl_v rfl rfl rfl (v_assign rfl) ?_
  refine wl_nil ?_
  refine wc_seq ?_
  refine wc_region ?_
  refine wl_v rfl rfl rfl (v_move rfl) ?_
  refine wl_v rfl rfl rfl (v_b2s Try.underlying64 Try.underlying5 Try.underlying9 hx rfl) ?_
  refine wl_v rfl rfl rfl (v_move rfl) ?_
  refine wl_v rfl rfl rfl (v_b2s Try.underlying64 Try.underlying5 Try.underlying9 hy rfl) ?_
  refine wl_v rfl rfl rfl (v_eqls rfl rfl) ?_
  refine wl_v rfl rfl rfl (v_assign rfl) ?_
  refine wl_nil ?_
  refine wc_ret ?_
  exact ⟨_, res1 rfl rfl, congrArg Value.bool (decide_eq_decide.2 ⟨fun h => strOf_inj bx by' h, fun h => by rw [h]⟩), H⟩
end Go.Proofs.Ytkpehkadammppaa.EqualW

/-! One number read. -/
namespace Go.Proofs.Ytkpehkadammppaa.NumW
open Go Go.RowKit Go.Proofs.YtkpehkadammppaaFx 
theorem fa112_0 : FieldAt Try.prog 112 0 0 := field_at (sz := 0) Try.underlying112 rfl (by kernel_rfl) rfl
theorem fa112_1 : FieldAt Try.prog 112 1 1 := field_at (sz := 0) Try.underlying112 rfl (by kernel_rfl) rfl
theorem fa115_0 : FieldAt Try.prog 115 0 0 := field_at (sz := 0) Try.underlying115 rfl (by kernel_rfl) rfl
theorem fa115_1 : FieldAt Try.prog 115 1 1 := field_at (sz := 0) Try.underlying115 rfl (by kernel_rfl) rfl
theorem fa115_2 : FieldAt Try.prog 115 2 2 := field_at (sz := 0) Try.underlying115 rfl (by kernel_rfl) rfl
theorem one3 : One Try.prog 3 := one_of Try.underlying3 rfl (by kernel_rfl)
theorem one4 : One Try.prog 4 := one_of Try.underlying4 rfl (by kernel_rfl)
theorem one5 : One Try.prog 5 := one_of Try.underlying5 rfl (by kernel_rfl)
theorem one64 : One Try.prog 64 := one_of Try.underlying64 rfl (by kernel_rfl)
theorem sz3 : ∀ W, (sizeOf 3).run Try.prog W = .ok 1 W := size_of (by kernel_rfl)
theorem sz4 : ∀ W, (sizeOf 4).run Try.prog W = .ok 1 W := size_of (by kernel_rfl)
theorem sz5 : ∀ W, (sizeOf 5).run Try.prog W = .ok 1 W := size_of (by kernel_rfl)
theorem sz64 : ∀ W, (sizeOf 64).run Try.prog W = .ok 1 W := size_of (by kernel_rfl)

set_option maxRecDepth 100000 in
theorem number_calls {A : Option Addr} {b c : Nat} {bs : List Int} {bad : Bool} {w0 w : World} {LL : List Value → List Ch} (UU : ∀ x y, Upd (LL x) (Blk b 112 x) (Blk b 112 y) (LL y)) (hr : Rd (kInt .u8) w0 A bs) (hB : Bytes bs) (hl : bs.length ≤ 1099511627776) (hcap : bs.length ≤ c) (HH : Holds w0 (LL [.slice A bs.length c, .bool bad]) w) :
    Calls Try.prog 54 #[.pointer (some ⟨b, 0, none⟩)] w fun e w' => ∃ r, e = .returned r ∧ ∃ A' c', r = .int .i64 (numS bs bad).1 ∧ (numS bs bad).2.1.length ≤ c' ∧ Rd (kInt .u8) w0 A' (numS bs bad).2.1 ∧ Holds w0 (LL [.slice A' (numS bs bad).2.1.length c', .bool (numS bs bad).2.2]) w' := by
  refine calls_of Try.func54 rfl Try.ntmps54 rfl ?_
  have H := HH
  refine wc_seq ?_
  refine wc_region ?_
  refine wl_v rfl rfl rfl (v_assign rfl) ?_
  refine wl_nil ?_
  refine wc_seq ?_
  refine wc_region ?_
  refine wl_v rfl rfl rfl (v_assign rfl) ?_
  refine wl_nil ?_
  refine wc_seq ?_
  refine wc_seq ?_
  refine wc_region ?_
  refine wl_v rfl rfl rfl (v_assign rfl) ?_
  refine wl_nil ?_
  refine wc_block ?_
  refine wc_loop (σ := Nat × Nat) (fun s => [(0, .pointer (some ⟨b, 0, none⟩)), (3, .int .i64 s.2), (4, .int .i64 s.1)]) (fun s W => (s.1 ≤ 5 ∧ s.1 ≤ bs.length ∧ s.2 < 2 ^ (7 * s.1) ∧ num bs = numG (5 - s.1) s.2 (7 * s.1) (bs.drop s.1)) ∧ Holds w0 (LL [.slice A bs.length c, .bool bad]) W) (fun s => 5 - s.1) (0, 0) (sc rfl (sc rfl (sc rfl (sn _)))) ⟨⟨by dsimp only; omega, Nat.zero_le _, by decide, rfl⟩, H⟩ ?_
  rintro ⟨i, acc⟩ W0 ⟨⟨hi, hil, ha, he⟩, H⟩
  dsimp only at hi hil ha he H ⊢
  refine wc_seq ?_
  refine wc_seq ?_
  refine wc_region ?_
  refine wl_v rfl rfl rfl (v_move rfl) ?_
  refine wl_v rfl rfl rfl (v_move rfl) ?_
  refine wl_v rfl rfl rfl (v_nil rfl) ?_
  refine wl_v rfl rfl rfl (v_fb (o2 := 0) fa112_0 rfl rfl) ?_
  refine wl_v rfl rfl rfl (v_load one64 rfl (H.at (UU _ _) rfl)) ?_
  refine wl_v rfl rfl rfl (v_len Try.underlying64 rfl) ?_
  refine wl_v rfl rfl rfl (v_lss rfl rfl) ?_
  refine wl_v rfl rfl rfl (v_move rfl) ?_
  refine wl_guard rfl rfl rfl (fun g13 => ?_) (fun g13 => ?_)
  · have g13p := of_decide_eq_true g13
    refine wl_v rfl rfl rfl (v_move rfl) ?_
    refine wl_on' rfl rfl g13 ?_
    refine wl_v rfl rfl rfl (v_lss rfl rfl) ?_
    refine wl_v rfl rfl rfl (v_pick_t rfl g13 rfl) ?_
    refine wl_nil ?_
    refine wc_cond rfl (fun c0 => ?_) (fun c0 => ?_)
    · have c0p := of_decide_eq_true c0
      have hc := hB _ (getD_mem (z := 0) (show i < bs.length by omega))
      have hpw : ((bs.getD i 0).toNat % 128) * 2 ^ (7 * i) < 2 ^ 62 := by
        rcases (by omega : i = 0 ∨ i = 1 ∨ i = 2 ∨ i = 3 ∨ i = 4) with rfl | rfl | rfl | rfl | rfl <;> simp only [Nat.reducePow, Nat.reduceMul] <;> omega
      have hap : acc < 2 ^ 62 := by
        rcases (by omega : i = 0 ∨ i = 1 ∨ i = 2 ∨ i = 3 ∨ i = 4) with rfl | rfl | rfl | rfl | rfl <;> simp only [Nat.reducePow, Nat.reduceMul] at ha ⊢ <;> omega
      have hnew : (acc + ((bs.getD i 0).toNat % 128) * 2 ^ (7 * i)) < 2 ^ (7 * (i + 1)) := by
        rcases (by omega : i = 0 ∨ i = 1 ∨ i = 2 ∨ i = 3 ∨ i = 4) with rfl | rfl | rfl | rfl | rfl <;> simp only [Nat.reducePow, Nat.reduceMul, Nat.reduceAdd] at ha ⊢ <;> omega
      have e1 : bits .and .u8 (bs.getD i 0) 127 = ((((bs.getD i 0).toNat % 128) : Nat) : Int) := by rw [and127 hc]; omega
      have e2 : IntKind.i64.wrap ((((bs.getD i 0).toNat % 128) : Nat) : Int) = ((((bs.getD i 0).toNat % 128) : Nat) : Int) := IntWalk.i64_in _ (by omega)
      have e3 : IntKind.i64.wrap (7 * (i : Int)) = ((7 * i : Nat) : Int) := by rw [IntWalk.i64_in _ (by omega)]; omega
      have e4 : IntKind.i64.wrap (((((bs.getD i 0).toNat % 128) : Nat) : Int) * 2 ^ ((7 * i : Nat) : Int).toNat) = ((((bs.getD i 0).toNat % 128) * 2 ^ (7 * i) : Nat) : Int) := by
        rw [Int.toNat_natCast, show ((((bs.getD i 0).toNat % 128) : Nat) : Int) * 2 ^ (7 * i) = ((((bs.getD i 0).toNat % 128) * 2 ^ (7 * i) : Nat) : Int) by simp]
        exact IntWalk.i64_in _ (by omega)
      have e5 := or_low ha hpw hap
      obtain ⟨kk, hkk⟩ : ∃ kk, 5 - i = kk + 1 := ⟨4 - i, by omega⟩
      have hst := numG_step (k := kk) (acc := acc) (sh := 7 * i) (show i < bs.length by omega)
      rw [hkk] at he
      rw [← he] at hst
      refine wc_skip ?_
      refine wc_seq ?_
      refine wc_block ?_
      refine wc_seq ?_
      refine wc_region ?_
      refine wl_v rfl rfl rfl (v_move rfl) ?_
      refine wl_v rfl rfl rfl (v_nil rfl) ?_
      refine wl_v rfl rfl rfl (v_fb (o2 := 0) fa112_0 rfl rfl) ?_
      refine wl_v rfl rfl rfl (v_load one64 rfl (H.at (UU _ _) rfl)) ?_
      refine wl_v rfl rfl rfl (v_move rfl) ?_
      refine wl_v rfl rfl rfl (v_idx Try.underlying64 sz5 hr.ad rfl rfl (by omega) (by omega)) ?_
      refine wl_v rfl rfl rfl (v_load one5 rfl (H.cell (hr.at1N (i := i) (by omega)))) ?_
      refine wl_v rfl rfl rfl (v_assign rfl) ?_
      refine wl_nil ?_
      refine wc_seq ?_
      refine wc_region ?_
      refine wl_v rfl rfl rfl (v_move rfl) ?_
      refine wl_v rfl rfl rfl (v_move rfl) ?_
      refine wl_v rfl rfl rfl (v_and rfl rfl) ?_
      rw [e1]
      refine wl_v rfl rfl rfl (v_conv Try.underlying5 Try.underlying3 rfl) ?_
      rw [e2]
      refine wl_v rfl rfl rfl (v_move rfl) ?_
      refine wl_v rfl rfl rfl (v_mul rfl rfl) ?_
      rw [e3]
      refine wl_v rfl rfl rfl (v_shl rfl rfl (by omega) (by simp only [IntKind.bits]; omega)) ?_
      rw [e4]
      refine wl_v rfl rfl rfl (v_or rfl rfl) ?_
      rw [e5]
      refine wl_v rfl rfl rfl (v_assign rfl) ?_
      refine wl_nil ?_
      refine wc_seq ?_
      refine wc_region ?_
      refine wl_v rfl rfl rfl (v_move rfl) ?_
      refine wl_v rfl rfl rfl (v_lss rfl rfl) ?_
      refine wl_nil ?_
      refine wc_cond rfl (fun c1 => ?_) (fun c1 => ?_)
      · have c1p := of_decide_eq_true c1
        refine wc_seq ?_
        refine wc_seq ?_
        refine wc_region ?_
        refine wl_v rfl rfl rfl (v_move rfl) ?_
        refine wl_v rfl rfl rfl (v_eql rfl rfl) ?_
        refine wl_v rfl rfl rfl (v_move rfl) ?_
        refine wl_guard rfl rfl rfl (fun g38 => ?_) (fun g38 => ?_)
        · have g38p := of_decide_eq_true g38
          refine wl_v rfl rfl rfl (v_move rfl) ?_
          refine wl_on' rfl rfl g38 ?_
          refine wl_v rfl rfl rfl (v_gtr rfl rfl) ?_
          refine wl_v rfl rfl rfl (v_pick_t rfl g38 rfl) ?_
          refine wl_v rfl rfl rfl (v_move rfl) ?_
          refine wl_guard rfl rfl rfl (fun g42 => ?_) (fun g42 => ?_)
          · have g42p := of_decide_eq_false g42
            refine wl_v rfl rfl rfl (v_move rfl) ?_
            refine wl_on' rfl rfl g42 ?_
            refine wl_v rfl rfl rfl (v_gtr rfl rfl) ?_
            refine wl_v rfl rfl rfl (v_pick_f rfl g42 rfl) ?_
            refine wl_nil ?_
            refine wc_cond rfl (fun c2 => ?_) (fun c2 => ?_)
            · have c2p := of_decide_eq_true c2
              refine wc_exit ?_
              refine wc_seq ?_
              refine wc_region ?_
              refine wl_v rfl rfl rfl (v_move rfl) ?_
              refine wl_v rfl rfl rfl (v_nil rfl) ?_
              refine wl_v rfl rfl rfl (v_fb (o2 := 1) fa112_1 rfl rfl) ?_
              refine wl_store (vs := [_]) H (UU _ _) sz4 rfl rfl rfl rfl rfl (by (repeat constructor)) ?_
              intro w6 H7 hw6
              refine wl_nil ?_
              refine wc_seq ?_
              refine wc_region ?_
              refine wl_v rfl rfl rfl (v_assign rfl) ?_
              refine wl_nil ?_
              refine wc_ret ?_
              first
                | (have hn : num bs = some ((acc + ((bs.getD i 0).toNat % 128) * 2 ^ (7 * i)), bs.drop (i + 1)) := by rw [hst, if_pos (by omega), if_neg (by omega)]
                   have hd : (bs.drop (i + 1)).length = bs.length - ((i : Int) + 1).toNat := by rw [List.length_drop]; omega
                   have ht : ((i : Int) + 1).toNat = i + 1 := by omega
                   rw [← hd, ht] at H7
                   rw [numS_some hn]
                   exact ⟨_, res1 rfl rfl, cutA A (i + 1) c 1, c - (i + 1), rfl, by rw [List.length_drop]; omega, hr.cut (by omega) hcap, H7⟩)
                | (have hn : num bs = none := by
                     first
                       | (rw [he, show 5 - i = 0 by omega]; rfl)
                       | (rw [he, List.drop_of_length_le (by omega)]; exact numG_nil _ _ _)
                       | (rw [hst, if_pos (by omega), if_pos (by omega)])
                   rw [numS_none hn]
                   exact ⟨_, res1 rfl rfl, A, c, rfl, hcap, hr, H7⟩)
            · have c2p := of_decide_eq_false c2
              refine wc_skip ?_
              refine wc_seq ?_
              refine wc_region ?_
              refine wl_v rfl rfl rfl (v_move rfl) ?_
              refine wl_v rfl rfl rfl (v_move rfl) ?_
              refine wl_v rfl rfl rfl (v_nil rfl) ?_
              refine wl_v rfl rfl rfl (v_fb (o2 := 0) fa112_0 rfl rfl) ?_
              refine wl_v rfl rfl rfl (v_load one64 rfl (H.at (UU _ _) rfl)) ?_
              refine wl_v rfl rfl rfl (v_move rfl) ?_
              refine wl_v rfl rfl rfl (v_addi rfl rfl (by omega)) ?_
              refine wl_v rfl rfl rfl (v_cutlo Try.underlying64 sz5 rfl rfl (by omega) (by omega)) ?_
              refine wl_v rfl rfl rfl (v_nil rfl) ?_
              refine wl_v rfl rfl rfl (v_fb (o2 := 0) fa112_0 rfl rfl) ?_
              refine wl_store (vs := [_]) H (UU _ _) sz64 rfl rfl rfl rfl rfl (by (repeat constructor)) ?_
              intro w9 H10 hw9
              refine wl_nil ?_
              refine wc_seq ?_
              refine wc_region ?_
              refine wl_v rfl rfl rfl (v_move rfl) ?_
              refine wl_v rfl rfl rfl (v_assign rfl) ?_
              refine wl_nil ?_
              refine wc_ret ?_
              first
                | (have hn : num bs = some ((acc + ((bs.getD i 0).toNat % 128) * 2 ^ (7 * i)), bs.drop (i + 1)) := by rw [hst, if_pos (by omega), if_neg (by omega)]
                   have hd : (bs.drop (i + 1)).length = bs.length - ((i : Int) + 1).toNat := by rw [List.length_drop]; omega
                   have ht : ((i : Int) + 1).toNat = i + 1 := by omega
                   rw [← hd, ht] at H10
                   rw [numS_some hn]
                   exact ⟨_, res1 rfl rfl, cutA A (i + 1) c 1, c - (i + 1), rfl, by rw [List.length_drop]; omega, hr.cut (by omega) hcap, H10⟩)
                | (have hn : num bs = none := by
                     first
                       | (rw [he, show 5 - i = 0 by omega]; rfl)
                       | (rw [he, List.drop_of_length_le (by omega)]; exact numG_nil _ _ _)
                       | (rw [hst, if_pos (by omega), if_pos (by omega)])
                   rw [numS_none hn]
                   exact ⟨_, res1 rfl rfl, A, c, rfl, hcap, hr, H10⟩)
          · have g42p := of_decide_eq_true g42
            refine wl_off rfl rfl g42 rfl ?_
            refine wl_v rfl rfl rfl (v_pick_t rfl g42 rfl) ?_
            refine wl_nil ?_
            refine wc_cond_t rfl ?_
            refine wc_exit ?_
            refine wc_seq ?_
            refine wc_region ?_
            refine wl_v rfl rfl rfl (v_move rfl) ?_
            refine wl_v rfl rfl rfl (v_nil rfl) ?_
            refine wl_v rfl rfl rfl (v_fb (o2 := 1) fa112_1 rfl rfl) ?_
            refine wl_store (vs := [_]) H (UU _ _) sz4 rfl rfl rfl rfl rfl (by (repeat constructor)) ?_
            intro w11 H12 hw11
            refine wl_nil ?_
            refine wc_seq ?_
            refine wc_region ?_
            refine wl_v rfl rfl rfl (v_assign rfl) ?_
            refine wl_nil ?_
            refine wc_ret ?_
            first
              | (have hn : num bs = some ((acc + ((bs.getD i 0).toNat % 128) * 2 ^ (7 * i)), bs.drop (i + 1)) := by rw [hst, if_pos (by omega), if_neg (by omega)]
                 have hd : (bs.drop (i + 1)).length = bs.length - ((i : Int) + 1).toNat := by rw [List.length_drop]; omega
                 have ht : ((i : Int) + 1).toNat = i + 1 := by omega
                 rw [← hd, ht] at H12
                 rw [numS_some hn]
                 exact ⟨_, res1 rfl rfl, cutA A (i + 1) c 1, c - (i + 1), rfl, by rw [List.length_drop]; omega, hr.cut (by omega) hcap, H12⟩)
              | (have hn : num bs = none := by
                   first
                     | (rw [he, show 5 - i = 0 by omega]; rfl)
                     | (rw [he, List.drop_of_length_le (by omega)]; exact numG_nil _ _ _)
                     | (rw [hst, if_pos (by omega), if_pos (by omega)])
                 rw [numS_none hn]
                 exact ⟨_, res1 rfl rfl, A, c, rfl, hcap, hr, H12⟩)
        · have g38p := of_decide_eq_false g38
          refine wl_off rfl rfl g38 rfl ?_
          refine wl_v rfl rfl rfl (v_pick_f rfl g38 rfl) ?_
          refine wl_v rfl rfl rfl (v_move rfl) ?_
          refine wl_on' rfl rfl rfl ?_
          refine wl_v rfl rfl rfl (v_move rfl) ?_
          refine wl_on' rfl rfl rfl ?_
          refine wl_v rfl rfl rfl (v_gtr rfl rfl) ?_
          refine wl_v rfl rfl rfl (v_pick_f rfl rfl rfl) ?_
          refine wl_nil ?_
          refine wc_cond rfl (fun c2 => ?_) (fun c2 => ?_)
          · have c2p := of_decide_eq_true c2
            refine wc_exit ?_
            refine wc_seq ?_
            refine wc_region ?_
            refine wl_v rfl rfl rfl (v_move rfl) ?_
            refine wl_v rfl rfl rfl (v_nil rfl) ?_
            refine wl_v rfl rfl rfl (v_fb (o2 := 1) fa112_1 rfl rfl) ?_
            refine wl_store (vs := [_]) H (UU _ _) sz4 rfl rfl rfl rfl rfl (by (repeat constructor)) ?_
            intro w13 H14 hw13
            refine wl_nil ?_
            refine wc_seq ?_
            refine wc_region ?_
            refine wl_v rfl rfl rfl (v_assign rfl) ?_
            refine wl_nil ?_
            refine wc_ret ?_
            first
              | (have hn : num bs = some ((acc + ((bs.getD i 0).toNat % 128) * 2 ^ (7 * i)), bs.drop (i + 1)) := by rw [hst, if_pos (by omega), if_neg (by omega)]
                 have hd : (bs.drop (i + 1)).length = bs.length - ((i : Int) + 1).toNat := by rw [List.length_drop]; omega
                 have ht : ((i : Int) + 1).toNat = i + 1 := by omega
                 rw [← hd, ht] at H14
                 rw [numS_some hn]
                 exact ⟨_, res1 rfl rfl, cutA A (i + 1) c 1, c - (i + 1), rfl, by rw [List.length_drop]; omega, hr.cut (by omega) hcap, H14⟩)
              | (have hn : num bs = none := by
                   first
                     | (rw [he, show 5 - i = 0 by omega]; rfl)
                     | (rw [he, List.drop_of_length_le (by omega)]; exact numG_nil _ _ _)
                     | (rw [hst, if_pos (by omega), if_pos (by omega)])
                 rw [numS_none hn]
                 exact ⟨_, res1 rfl rfl, A, c, rfl, hcap, hr, H14⟩)
          · have c2p := of_decide_eq_false c2
            refine wc_skip ?_
            refine wc_seq ?_
            refine wc_region ?_
            refine wl_v rfl rfl rfl (v_move rfl) ?_
            refine wl_v rfl rfl rfl (v_move rfl) ?_
            refine wl_v rfl rfl rfl (v_nil rfl) ?_
            refine wl_v rfl rfl rfl (v_fb (o2 := 0) fa112_0 rfl rfl) ?_
            refine wl_v rfl rfl rfl (v_load one64 rfl (H.at (UU _ _) rfl)) ?_
            refine wl_v rfl rfl rfl (v_move rfl) ?_
            refine wl_v rfl rfl rfl (v_addi rfl rfl (by omega)) ?_
            refine wl_v rfl rfl rfl (v_cutlo Try.underlying64 sz5 rfl rfl (by omega) (by omega)) ?_
            refine wl_v rfl rfl rfl (v_nil rfl) ?_
            refine wl_v rfl rfl rfl (v_fb (o2 := 0) fa112_0 rfl rfl) ?_
            refine wl_store (vs := [_]) H (UU _ _) sz64 rfl rfl rfl rfl rfl (by (repeat constructor)) ?_
            intro w16 H17 hw16
            refine wl_nil ?_
            refine wc_seq ?_
            refine wc_region ?_
            refine wl_v rfl rfl rfl (v_move rfl) ?_
            refine wl_v rfl rfl rfl (v_assign rfl) ?_
            refine wl_nil ?_
            refine wc_ret ?_
            first
              | (have hn : num bs = some ((acc + ((bs.getD i 0).toNat % 128) * 2 ^ (7 * i)), bs.drop (i + 1)) := by rw [hst, if_pos (by omega), if_neg (by omega)]
                 have hd : (bs.drop (i + 1)).length = bs.length - ((i : Int) + 1).toNat := by rw [List.length_drop]; omega
                 have ht : ((i : Int) + 1).toNat = i + 1 := by omega
                 rw [← hd, ht] at H17
                 rw [numS_some hn]
                 exact ⟨_, res1 rfl rfl, cutA A (i + 1) c 1, c - (i + 1), rfl, by rw [List.length_drop]; omega, hr.cut (by omega) hcap, H17⟩)
              | (have hn : num bs = none := by
                   first
                     | (rw [he, show 5 - i = 0 by omega]; rfl)
                     | (rw [he, List.drop_of_length_le (by omega)]; exact numG_nil _ _ _)
                     | (rw [hst, if_pos (by omega), if_pos (by omega)])
                 rw [numS_none hn]
                 exact ⟨_, res1 rfl rfl, A, c, rfl, hcap, hr, H17⟩)
      · have c1p := of_decide_eq_false c1
        refine wc_skip ?_
        refine wc_region ?_
        refine wl_v rfl rfl rfl (v_move rfl) ?_
        refine wl_v rfl rfl rfl (v_addi rfl rfl (by omega)) ?_
        refine wl_v rfl rfl rfl (v_assign rfl) ?_
        refine wl_nil ?_
        exact ⟨(i + 1, (acc + ((bs.getD i 0).toNat % 128) * 2 ^ (7 * i))), (sc rfl (sc rfl (sc rfl (sn _)))), ⟨⟨by dsimp only; omega, by dsimp only; omega, hnew, by dsimp only; rw [hst, if_neg (by omega), show 5 - (i + 1) = kk by omega, show 7 * (i + 1) = 7 * i + 7 by omega]⟩, H⟩, by dsimp only; omega⟩
    · have c0p := of_decide_eq_false c0
      refine wc_exit ?_
      refine wc_seq ?_
      refine wc_region ?_
      refine wl_v rfl rfl rfl (v_move rfl) ?_
      refine wl_v rfl rfl rfl (v_nil rfl) ?_
      refine wl_v rfl rfl rfl (v_fb (o2 := 1) fa112_1 rfl rfl) ?_
      refine wl_store (vs := [_]) H (UU _ _) sz4 rfl rfl rfl rfl rfl (by (repeat constructor)) ?_
      intro w18 H19 hw18
      refine wl_nil ?_
      refine wc_seq ?_
      refine wc_region ?_
      refine wl_v rfl rfl rfl (v_assign rfl) ?_
      refine wl_nil ?_
      refine wc_ret ?_
      first
        | (have hn : num bs = some ((acc + ((bs.getD i 0).toNat % 128) * 2 ^ (7 * i)), bs.drop (i + 1)) := by rw [hst, if_pos (by omega), if_neg (by omega)]
           have hd : (bs.drop (i + 1)).length = bs.length - ((i : Int) + 1).toNat := by rw [List.length_drop]; omega
           have ht : ((i : Int) + 1).toNat = i + 1 := by omega
           rw [← hd, ht] at H19
           rw [numS_some hn]
           exact ⟨_, res1 rfl rfl, cutA A (i + 1) c 1, c - (i + 1), rfl, by rw [List.length_drop]; omega, hr.cut (by omega) hcap, H19⟩)
        | (have hn : num bs = none := by
             first
               | (rw [he, show 5 - i = 0 by omega]; rfl)
               | (rw [he, List.drop_of_length_le (by omega)]; exact numG_nil _ _ _)
               | (rw [hst, if_pos (by omega), if_pos (by omega)])
           rw [numS_none hn]
           exact ⟨_, res1 rfl rfl, A, c, rfl, hcap, hr, H19⟩)
  · have g13p := of_decide_eq_false g13
    refine wl_off rfl rfl g13 rfl ?_
    refine wl_v rfl rfl rfl (v_pick_f rfl g13 rfl) ?_
    refine wl_nil ?_
    refine wc_cond_f rfl ?_
    refine wc_exit ?_
    refine wc_seq ?_
    refine wc_region ?_
    refine wl_v rfl rfl rfl (v_move rfl) ?_
    refine wl_v rfl rfl rfl (v_nil rfl) ?_
    refine wl_v rfl rfl rfl (v_fb (o2 := 1) fa112_1 rfl rfl) ?_
    refine wl_store (vs := [_]) H (UU _ _) sz4 rfl rfl rfl rfl rfl (by (repeat constructor)) ?_
    intro w20 H21 hw20
    refine wl_nil ?_
    refine wc_seq ?_
    refine wc_region ?_
    refine wl_v rfl rfl rfl (v_assign rfl) ?_
    refine wl_nil ?_
    refine wc_ret ?_
    first
      | (have hn : num bs = some ((acc + ((bs.getD i 0).toNat % 128) * 2 ^ (7 * i)), bs.drop (i + 1)) := by rw [hst, if_pos (by omega), if_neg (by omega)]
         have hd : (bs.drop (i + 1)).length = bs.length - ((i : Int) + 1).toNat := by rw [List.length_drop]; omega
         have ht : ((i : Int) + 1).toNat = i + 1 := by omega
         rw [← hd, ht] at H21
         rw [numS_some hn]
         exact ⟨_, res1 rfl rfl, cutA A (i + 1) c 1, c - (i + 1), rfl, by rw [List.length_drop]; omega, hr.cut (by omega) hcap, H21⟩)
      | (have hn : num bs = none := by
           first
             | (rw [he, show 5 - i = 0 by omega]; rfl)
             | (rw [he, List.drop_of_length_le (by omega)]; exact numG_nil _ _ _)
             | (rw [hst, if_pos (by omega), if_pos (by omega)])
         rw [numS_none hn]
         exact ⟨_, res1 rfl rfl, A, c, rfl, hcap, hr, H21⟩)

set_option maxRecDepth 100000 in
theorem next_calls {A : Option Addr} {b c a : Nat} {bs : List Int} {bad : Bool} {w0 w : World} {LL : List Value → List Ch} (UU : ∀ x y, Upd (LL x) (Blk b 115 x) (Blk b 115 y) (LL y)) (hr : Rd (kInt .u8) w0 A bs) (hB : Bytes bs) (hl : bs.length ≤ 1099511627776) (hal : a ≤ bs.length) (HH : Holds w0 (LL [.slice A bs.length c, .int .i64 a, .bool bad]) w) :
    Calls Try.prog 55 #[.pointer (some ⟨b, 0, none⟩)] w fun e w' => ∃ r, e = .returned r ∧ r = .int .i64 (nxtS bs a bad).1 ∧ Holds w0 (LL [.slice A bs.length c, .int .i64 (nxtS bs a bad).2.1, .bool (nxtS bs a bad).2.2]) w' := by
  refine calls_of Try.func55 rfl Try.ntmps55 rfl ?_
  have H := HH
  refine wc_seq ?_
  refine wc_region ?_
  refine wl_v rfl rfl rfl (v_assign rfl) ?_
  refine wl_nil ?_
  refine wc_seq ?_
  refine wc_region ?_
  refine wl_v rfl rfl rfl (v_assign rfl) ?_
  refine wl_v rfl rfl rfl (v_assign rfl) ?_
  refine wl_nil ?_
  refine wc_seq ?_
  refine wc_seq ?_
  refine wc_region ?_
  refine wl_v rfl rfl rfl (v_move rfl) ?_
  refine wl_v rfl rfl rfl (v_nil rfl) ?_
  refine wl_v rfl rfl rfl (v_fb (o2 := 1) fa115_1 rfl rfl) ?_
  refine wl_v rfl rfl rfl (v_load one3 rfl (H.at (UU _ _) rfl)) ?_
  refine wl_v rfl rfl rfl (v_assign rfl) ?_
  refine wl_nil ?_
  refine wc_block ?_
  refine wc_loop (σ := Nat × Nat) (fun s => [(0, .pointer (some ⟨b, 0, none⟩)), (3, .int .i64 s.2), (4, .int .i64 (7 * s.1 : Nat)), (5, .int .i64 (a + s.1 : Nat))]) (fun s W => (s.1 ≤ 5 ∧ a + s.1 ≤ bs.length ∧ s.2 < 2 ^ (7 * s.1) ∧ num (bs.drop a) = numG (5 - s.1) s.2 (7 * s.1) (bs.drop (a + s.1))) ∧ Holds w0 (LL [.slice A bs.length c, .int .i64 a, .bool bad]) W) (fun s => 6 - s.1) (0, 0) (sc rfl (sc rfl (sc rfl (sc rfl (sn _))))) ⟨⟨by dsimp only; omega, hal, by decide, rfl⟩, H⟩ ?_
  rintro ⟨j, acc⟩ W0 ⟨⟨hj, hjl, ha, he⟩, H⟩
  dsimp only at hj hjl ha he H ⊢
  refine wc_seq ?_
  refine wc_seq ?_
  refine wc_region ?_
  refine wl_v rfl rfl rfl (v_move rfl) ?_
  refine wl_v rfl rfl rfl (v_move rfl) ?_
  refine wl_v rfl rfl rfl (v_nil rfl) ?_
  refine wl_v rfl rfl rfl (v_fb (o2 := 0) fa115_0 rfl rfl) ?_
  refine wl_v rfl rfl rfl (v_load one64 rfl (H.at (UU _ _) rfl)) ?_
  refine wl_v rfl rfl rfl (v_len Try.underlying64 rfl) ?_
  refine wl_v rfl rfl rfl (v_lss rfl rfl) ?_
  refine wl_v rfl rfl rfl (v_move rfl) ?_
  refine wl_guard rfl rfl rfl (fun g17 => ?_) (fun g17 => ?_)
  · have g17p := of_decide_eq_true g17
    refine wl_v rfl rfl rfl (v_move rfl) ?_
    refine wl_on' rfl rfl g17 ?_
    refine wl_v rfl rfl rfl (v_nil rfl) ?_
    refine wl_on' rfl rfl g17 ?_
    refine wl_v rfl rfl rfl (v_fb (o2 := 2) fa115_2 rfl rfl) ?_
    refine wl_on' rfl rfl g17 ?_
    refine wl_v rfl rfl rfl (v_load one4 rfl (H.at (UU _ _) rfl)) ?_
    refine wl_on' rfl rfl g17 ?_
    refine wl_v rfl rfl rfl (v_not rfl) ?_
    refine wl_v rfl rfl rfl (v_pick_t rfl g17 rfl) ?_
    refine wl_nil ?_
    refine wc_cond rfl (fun c0 => ?_) (fun c0 => ?_)
    · have c0p := of_n_t c0
      have hc := hB _ (getD_mem (z := 0) (show a + j < bs.length by omega))
      have hpw : ((bs.getD (a + j) 0).toNat % 128) * 2 ^ (7 * j) < 2 ^ 62 := by
        rcases (by omega : j = 0 ∨ j = 1 ∨ j = 2 ∨ j = 3 ∨ j = 4 ∨ j = 5) with rfl | rfl | rfl | rfl | rfl | rfl <;> simp only [Nat.reducePow, Nat.reduceMul] <;> omega
      have hap : acc < 2 ^ 36 := by
        rcases (by omega : j = 0 ∨ j = 1 ∨ j = 2 ∨ j = 3 ∨ j = 4 ∨ j = 5) with rfl | rfl | rfl | rfl | rfl | rfl <;> simp only [Nat.reducePow, Nat.reduceMul] at ha ⊢ <;> omega
      have hnew : j < 5 → (acc + ((bs.getD (a + j) 0).toNat % 128) * 2 ^ (7 * j)) < 2 ^ (7 * (j + 1)) := fun _ => by
        rcases (by omega : j = 0 ∨ j = 1 ∨ j = 2 ∨ j = 3 ∨ j = 4) with rfl | rfl | rfl | rfl | rfl <;> simp only [Nat.reducePow, Nat.reduceMul, Nat.reduceAdd] at ha ⊢ <;> omega
      have e1 : Int.tmod (bs.getD (a + j) 0) 128 = ((((bs.getD (a + j) 0).toNat % 128) : Nat) : Int) := by rw [Int.tmod_eq_emod_of_nonneg hc.1]; omega
      have e2 : IntKind.i64.wrap ((((bs.getD (a + j) 0).toNat % 128) : Nat) : Int) = ((((bs.getD (a + j) 0).toNat % 128) : Nat) : Int) := IntWalk.i64_in _ (by omega)
      have e4 : IntKind.i64.wrap (((((bs.getD (a + j) 0).toNat % 128) : Nat) : Int) * 2 ^ ((7 * j : Nat) : Int).toNat) = ((((bs.getD (a + j) 0).toNat % 128) * 2 ^ (7 * j) : Nat) : Int) := by
        rw [Int.toNat_natCast, show ((((bs.getD (a + j) 0).toNat % 128) : Nat) : Int) * 2 ^ (7 * j) = ((((bs.getD (a + j) 0).toNat % 128) * 2 ^ (7 * j) : Nat) : Int) by simp]
        exact IntWalk.i64_in _ (by omega)
      have e5 : (acc : Int) + ((((bs.getD (a + j) 0).toNat % 128) * 2 ^ (7 * j) : Nat) : Int) = (((acc + ((bs.getD (a + j) 0).toNat % 128) * 2 ^ (7 * j)) : Nat) : Int) := (Int.natCast_add _ _).symm
      have hst' : j < 5 → num (bs.drop a) = (if bs.getD (a + j) 0 < 128 then if (bs.getD (a + j) 0 = 0 ∧ 0 < 7 * j) ∨ 2147483647 < (acc + ((bs.getD (a + j) 0).toNat % 128) * 2 ^ (7 * j)) then none else some ((acc + ((bs.getD (a + j) 0).toNat % 128) * 2 ^ (7 * j)), bs.drop (a + j + 1)) else numG (4 - j) (acc + ((bs.getD (a + j) 0).toNat % 128) * 2 ^ (7 * j)) (7 * j + 7) (bs.drop (a + j + 1))) := fun hj5 => by
        have h1 := numG_step (k := 4 - j) (acc := acc) (sh := 7 * j) (show a + j < bs.length by omega)
        rw [show 4 - j + 1 = 5 - j by omega, ← he] at h1
        exact h1
      refine wc_skip ?_
      refine wc_seq ?_
      refine wc_block ?_
      refine wc_seq ?_
      refine wc_region ?_
      refine wl_v rfl rfl rfl (v_move rfl) ?_
      refine wl_v rfl rfl rfl (v_move rfl) ?_
      refine wl_v rfl rfl rfl (v_nil rfl) ?_
      refine wl_v rfl rfl rfl (v_fb (o2 := 0) fa115_0 rfl rfl) ?_
      refine wl_v rfl rfl rfl (v_load one64 rfl (H.at (UU _ _) rfl)) ?_
      refine wl_v rfl rfl rfl (v_move rfl) ?_
      refine wl_v rfl rfl rfl (v_idx Try.underlying64 sz5 hr.ad rfl rfl (by omega) (by omega)) ?_
      refine wl_v rfl rfl rfl (v_load one5 rfl (H.cell (hr.at1N (i := (a + j)) (by omega)))) ?_
      refine wl_v rfl rfl rfl (v_rem rfl rfl (by decide)) ?_
      rw [e1]
      refine wl_v rfl rfl rfl (v_conv Try.underlying5 Try.underlying3 rfl) ?_
      rw [e2]
      refine wl_v rfl rfl rfl (v_move rfl) ?_
      refine wl_v rfl rfl rfl (v_shl rfl rfl (by omega) (by simp only [IntKind.bits]; omega)) ?_
      rw [e4]
      refine wl_v rfl rfl rfl (v_addi rfl rfl (by omega)) ?_
      rw [e5]
      refine wl_v rfl rfl rfl (v_assign rfl) ?_
      refine wl_nil ?_
      refine wc_seq ?_
      refine wc_region ?_
      refine wl_v rfl rfl rfl (v_move rfl) ?_
      refine wl_v rfl rfl rfl (v_addi rfl rfl (by omega)) ?_
      refine wl_v rfl rfl rfl (v_assign rfl) ?_
      refine wl_nil ?_
      refine wc_seq ?_
      refine wc_seq ?_
      refine wc_region ?_
      refine wl_v rfl rfl rfl (v_move rfl) ?_
      refine wl_v rfl rfl rfl (v_gtr rfl rfl) ?_
      refine wl_v rfl rfl rfl (v_move rfl) ?_
      refine wl_guard rfl rfl rfl (fun g43 => ?_) (fun g43 => ?_)
      · have g43p := of_decide_eq_false g43
        refine wl_v rfl rfl rfl (v_move rfl) ?_
        refine wl_on' rfl rfl g43 ?_
        refine wl_v rfl rfl rfl (v_gtr rfl rfl) ?_
        refine wl_v rfl rfl rfl (v_pick_f rfl g43 rfl) ?_
        refine wl_nil ?_
        refine wc_cond rfl (fun c1 => ?_) (fun c1 => ?_)
        · have c1p := of_decide_eq_true c1
          refine wc_exit ?_
          refine wc_seq ?_
          refine wc_region ?_
          refine wl_v rfl rfl rfl (v_move rfl) ?_
          refine wl_v rfl rfl rfl (v_nil rfl) ?_
          refine wl_v rfl rfl rfl (v_fb (o2 := 2) fa115_2 rfl rfl) ?_
          refine wl_store (vs := [_]) H (UU _ _) sz4 rfl rfl rfl rfl rfl (by (repeat constructor)) ?_
          intro w5 H6 hw5
          refine wl_nil ?_
          refine wc_seq ?_
          refine wc_region ?_
          refine wl_v rfl rfl rfl (v_assign rfl) ?_
          refine wl_nil ?_
          refine wc_ret ?_
          first
            | (have hst := hst' (by omega)
               have hn : num (bs.drop a) = some ((acc + ((bs.getD (a + j) 0).toNat % 128) * 2 ^ (7 * j)), bs.drop (a + j + 1)) := by rw [hst, if_pos (by omega), if_neg (by omega)]
               have hd : bs.length - (bs.drop (a + j + 1)).length = a + j + 1 := by rw [List.length_drop]; omega
               subst c0p
               rw [nxtS_some hn, hd]
               exact ⟨_, res1 rfl rfl, rfl, H6⟩)
            | (have hn : nxtS bs a bad = (0, a, true) := by
                 cases bad
                 · refine nxtS_none ?_
                   first
                     | (rw [he, List.drop_of_length_le (by omega)]; exact numG_nil _ _ _)
                     | (rcases (by omega : j = 5 ∨ j < 5) with rfl | hj5
                        · rw [he]; rfl
                        · have hst := hst' hj5
                          rcases (by omega : bs.getD (a + j) 0 < 128 ∨ ¬ bs.getD (a + j) 0 < 128) with h1 | h1
                          · rw [hst, if_pos h1, if_pos (by omega)]
                          · rw [hst, if_neg h1]
                            exact numG_big _ _ _ _ (by omega))
                     | exact absurd rfl c0p
                     | exact absurd c0p (by simp)
                 · rfl
               rw [hn]
               exact ⟨_, res1 rfl rfl, rfl, H6⟩)
        · have c1p := of_decide_eq_false c1
          refine wc_skip ?_
          refine wc_seq ?_
          refine wc_region ?_
          refine wl_v rfl rfl rfl (v_move rfl) ?_
          refine wl_v rfl rfl rfl (v_nil rfl) ?_
          refine wl_v rfl rfl rfl (v_fb (o2 := 0) fa115_0 rfl rfl) ?_
          refine wl_v rfl rfl rfl (v_load one64 rfl (H.at (UU _ _) rfl)) ?_
          refine wl_v rfl rfl rfl (v_move rfl) ?_
          refine wl_v rfl rfl rfl (v_idx Try.underlying64 sz5 hr.ad rfl rfl (by omega) (by omega)) ?_
          refine wl_v rfl rfl rfl (v_load one5 rfl (H.cell (hr.at1N (i := (a + j)) (by omega)))) ?_
          refine wl_v rfl rfl rfl (v_lss rfl rfl) ?_
          refine wl_nil ?_
          refine wc_cond rfl (fun c2 => ?_) (fun c2 => ?_)
          · have c2p := of_decide_eq_true c2
            refine wc_seq ?_
            refine wc_seq ?_
            refine wc_region ?_
            refine wl_v rfl rfl rfl (v_move rfl) ?_
            refine wl_v rfl rfl rfl (v_nil rfl) ?_
            refine wl_v rfl rfl rfl (v_fb (o2 := 0) fa115_0 rfl rfl) ?_
            refine wl_v rfl rfl rfl (v_load one64 rfl (H.at (UU _ _) rfl)) ?_
            refine wl_v rfl rfl rfl (v_move rfl) ?_
            refine wl_v rfl rfl rfl (v_idx Try.underlying64 sz5 hr.ad rfl rfl (by omega) (by omega)) ?_
            refine wl_v rfl rfl rfl (v_load one5 rfl (H.cell (hr.at1N (i := (a + j)) (by omega)))) ?_
            refine wl_v rfl rfl rfl (v_eql rfl rfl) ?_
            refine wl_v rfl rfl rfl (v_move rfl) ?_
            refine wl_guard rfl rfl rfl (fun g63 => ?_) (fun g63 => ?_)
            · have g63p := of_decide_eq_true g63
              refine wl_v rfl rfl rfl (v_move rfl) ?_
              refine wl_on' rfl rfl g63 ?_
              refine wl_v rfl rfl rfl (v_move rfl) ?_
              refine wl_on' rfl rfl g63 ?_
              refine wl_v rfl rfl rfl (v_nil rfl) ?_
              refine wl_on' rfl rfl g63 ?_
              refine wl_v rfl rfl rfl (v_fb (o2 := 1) fa115_1 rfl rfl) ?_
              refine wl_on' rfl rfl g63 ?_
              refine wl_v rfl rfl rfl (v_load one3 rfl (H.at (UU _ _) rfl)) ?_
              refine wl_on' rfl rfl g63 ?_
              refine wl_v rfl rfl rfl (v_gtr rfl rfl) ?_
              refine wl_v rfl rfl rfl (v_pick_t rfl g63 rfl) ?_
              refine wl_nil ?_
              refine wc_cond rfl (fun c3 => ?_) (fun c3 => ?_)
              · have c3p := of_decide_eq_true c3
                refine wc_exit ?_
                refine wc_seq ?_
                refine wc_region ?_
                refine wl_v rfl rfl rfl (v_move rfl) ?_
                refine wl_v rfl rfl rfl (v_nil rfl) ?_
                refine wl_v rfl rfl rfl (v_fb (o2 := 2) fa115_2 rfl rfl) ?_
                refine wl_store (vs := [_]) H (UU _ _) sz4 rfl rfl rfl rfl rfl (by (repeat constructor)) ?_
                intro w7 H8 hw7
                refine wl_nil ?_
                refine wc_seq ?_
                refine wc_region ?_
                refine wl_v rfl rfl rfl (v_assign rfl) ?_
                refine wl_nil ?_
                refine wc_ret ?_
                first
                  | (have hst := hst' (by omega)
                     have hn : num (bs.drop a) = some ((acc + ((bs.getD (a + j) 0).toNat % 128) * 2 ^ (7 * j)), bs.drop (a + j + 1)) := by rw [hst, if_pos (by omega), if_neg (by omega)]
                     have hd : bs.length - (bs.drop (a + j + 1)).length = a + j + 1 := by rw [List.length_drop]; omega
                     subst c0p
                     rw [nxtS_some hn, hd]
                     exact ⟨_, res1 rfl rfl, rfl, H8⟩)
                  | (have hn : nxtS bs a bad = (0, a, true) := by
                       cases bad
                       · refine nxtS_none ?_
                         first
                           | (rw [he, List.drop_of_length_le (by omega)]; exact numG_nil _ _ _)
                           | (rcases (by omega : j = 5 ∨ j < 5) with rfl | hj5
                              · rw [he]; rfl
                              · have hst := hst' hj5
                                rcases (by omega : bs.getD (a + j) 0 < 128 ∨ ¬ bs.getD (a + j) 0 < 128) with h1 | h1
                                · rw [hst, if_pos h1, if_pos (by omega)]
                                · rw [hst, if_neg h1]
                                  exact numG_big _ _ _ _ (by omega))
                           | exact absurd rfl c0p
                           | exact absurd c0p (by simp)
                       · rfl
                     rw [hn]
                     exact ⟨_, res1 rfl rfl, rfl, H8⟩)
              · have c3p := of_decide_eq_false c3
                refine wc_skip ?_
                refine wc_seq ?_
                refine wc_region ?_
                refine wl_v rfl rfl rfl (v_move rfl) ?_
                refine wl_v rfl rfl rfl (v_move rfl) ?_
                refine wl_v rfl rfl rfl (v_addi rfl rfl (by omega)) ?_
                refine wl_v rfl rfl rfl (v_nil rfl) ?_
                refine wl_v rfl rfl rfl (v_fb (o2 := 1) fa115_1 rfl rfl) ?_
                refine wl_store (vs := [_]) H (UU _ _) sz3 rfl rfl rfl rfl rfl (by (repeat constructor)) ?_
                intro w9 H10 hw9
                refine wl_nil ?_
                refine wc_seq ?_
                refine wc_region ?_
                refine wl_v rfl rfl rfl (v_move rfl) ?_
                refine wl_v rfl rfl rfl (v_assign rfl) ?_
                refine wl_nil ?_
                refine wc_ret ?_
                first
                  | (have hst := hst' (by omega)
                     have hn : num (bs.drop a) = some ((acc + ((bs.getD (a + j) 0).toNat % 128) * 2 ^ (7 * j)), bs.drop (a + j + 1)) := by rw [hst, if_pos (by omega), if_neg (by omega)]
                     have hd : bs.length - (bs.drop (a + j + 1)).length = a + j + 1 := by rw [List.length_drop]; omega
                     subst c0p
                     rw [nxtS_some hn, hd]
                     exact ⟨_, res1 rfl rfl, rfl, H10⟩)
                  | (have hn : nxtS bs a bad = (0, a, true) := by
                       cases bad
                       · refine nxtS_none ?_
                         first
                           | (rw [he, List.drop_of_length_le (by omega)]; exact numG_nil _ _ _)
                           | (rcases (by omega : j = 5 ∨ j < 5) with rfl | hj5
                              · rw [he]; rfl
                              · have hst := hst' hj5
                                rcases (by omega : bs.getD (a + j) 0 < 128 ∨ ¬ bs.getD (a + j) 0 < 128) with h1 | h1
                                · rw [hst, if_pos h1, if_pos (by omega)]
                                · rw [hst, if_neg h1]
                                  exact numG_big _ _ _ _ (by omega))
                           | exact absurd rfl c0p
                           | exact absurd c0p (by simp)
                       · rfl
                     rw [hn]
                     exact ⟨_, res1 rfl rfl, rfl, H10⟩)
            · have g63p := of_decide_eq_false g63
              refine wl_off rfl rfl g63 rfl ?_
              refine wl_off rfl rfl g63 rfl ?_
              refine wl_off rfl rfl g63 rfl ?_
              refine wl_off rfl rfl g63 rfl ?_
              refine wl_off rfl rfl g63 rfl ?_
              refine wl_v rfl rfl rfl (v_pick_f rfl g63 rfl) ?_
              refine wl_nil ?_
              refine wc_cond_f rfl ?_
              refine wc_skip ?_
              refine wc_seq ?_
              refine wc_region ?_
              refine wl_v rfl rfl rfl (v_move rfl) ?_
              refine wl_v rfl rfl rfl (v_move rfl) ?_
              refine wl_v rfl rfl rfl (v_addi rfl rfl (by omega)) ?_
              refine wl_v rfl rfl rfl (v_nil rfl) ?_
              refine wl_v rfl rfl rfl (v_fb (o2 := 1) fa115_1 rfl rfl) ?_
              refine wl_store (vs := [_]) H (UU _ _) sz3 rfl rfl rfl rfl rfl (by (repeat constructor)) ?_
              intro w11 H12 hw11
              refine wl_nil ?_
              refine wc_seq ?_
              refine wc_region ?_
              refine wl_v rfl rfl rfl (v_move rfl) ?_
              refine wl_v rfl rfl rfl (v_assign rfl) ?_
              refine wl_nil ?_
              refine wc_ret ?_
              first
                | (have hst := hst' (by omega)
                   have hn : num (bs.drop a) = some ((acc + ((bs.getD (a + j) 0).toNat % 128) * 2 ^ (7 * j)), bs.drop (a + j + 1)) := by rw [hst, if_pos (by omega), if_neg (by omega)]
                   have hd : bs.length - (bs.drop (a + j + 1)).length = a + j + 1 := by rw [List.length_drop]; omega
                   subst c0p
                   rw [nxtS_some hn, hd]
                   exact ⟨_, res1 rfl rfl, rfl, H12⟩)
                | (have hn : nxtS bs a bad = (0, a, true) := by
                     cases bad
                     · refine nxtS_none ?_
                       first
                         | (rw [he, List.drop_of_length_le (by omega)]; exact numG_nil _ _ _)
                         | (rcases (by omega : j = 5 ∨ j < 5) with rfl | hj5
                            · rw [he]; rfl
                            · have hst := hst' hj5
                              rcases (by omega : bs.getD (a + j) 0 < 128 ∨ ¬ bs.getD (a + j) 0 < 128) with h1 | h1
                              · rw [hst, if_pos h1, if_pos (by omega)]
                              · rw [hst, if_neg h1]
                                exact numG_big _ _ _ _ (by omega))
                         | exact absurd rfl c0p
                         | exact absurd c0p (by simp)
                     · rfl
                   rw [hn]
                   exact ⟨_, res1 rfl rfl, rfl, H12⟩)
          · have c2p := of_decide_eq_false c2
            refine wc_skip ?_
            refine wc_region ?_
            refine wl_v rfl rfl rfl (v_move rfl) ?_
            refine wl_v rfl rfl rfl (v_addi rfl rfl (by omega)) ?_
            refine wl_v rfl rfl rfl (v_assign rfl) ?_
            refine wl_nil ?_
            have hst := hst' (by omega)
            exact ⟨(j + 1, (acc + ((bs.getD (a + j) 0).toNat % 128) * 2 ^ (7 * j))), (sc rfl (sc rfl (sc rfl (sc rfl (sn _))))), ⟨⟨by dsimp only; omega, by dsimp only; omega, hnew (by omega), by dsimp only; rw [hst, if_neg (by omega), show 5 - (j + 1) = 4 - j by omega, show 7 * (j + 1) = 7 * j + 7 by omega]; rfl⟩, H⟩, by dsimp only; omega⟩
      · have g43p := of_decide_eq_true g43
        refine wl_off rfl rfl g43 rfl ?_
        refine wl_v rfl rfl rfl (v_pick_t rfl g43 rfl) ?_
        refine wl_nil ?_
        refine wc_cond_t rfl ?_
        refine wc_exit ?_
        refine wc_seq ?_
        refine wc_region ?_
        refine wl_v rfl rfl rfl (v_move rfl) ?_
        refine wl_v rfl rfl rfl (v_nil rfl) ?_
        refine wl_v rfl rfl rfl (v_fb (o2 := 2) fa115_2 rfl rfl) ?_
        refine wl_store (vs := [_]) H (UU _ _) sz4 rfl rfl rfl rfl rfl (by (repeat constructor)) ?_
        intro w13 H14 hw13
        refine wl_nil ?_
        refine wc_seq ?_
        refine wc_region ?_
        refine wl_v rfl rfl rfl (v_assign rfl) ?_
        refine wl_nil ?_
        refine wc_ret ?_
        first
          | (have hst := hst' (by omega)
             have hn : num (bs.drop a) = some ((acc + ((bs.getD (a + j) 0).toNat % 128) * 2 ^ (7 * j)), bs.drop (a + j + 1)) := by rw [hst, if_pos (by omega), if_neg (by omega)]
             have hd : bs.length - (bs.drop (a + j + 1)).length = a + j + 1 := by rw [List.length_drop]; omega
             subst c0p
             rw [nxtS_some hn, hd]
             exact ⟨_, res1 rfl rfl, rfl, H14⟩)
          | (have hn : nxtS bs a bad = (0, a, true) := by
               cases bad
               · refine nxtS_none ?_
                 first
                   | (rw [he, List.drop_of_length_le (by omega)]; exact numG_nil _ _ _)
                   | (rcases (by omega : j = 5 ∨ j < 5) with rfl | hj5
                      · rw [he]; rfl
                      · have hst := hst' hj5
                        rcases (by omega : bs.getD (a + j) 0 < 128 ∨ ¬ bs.getD (a + j) 0 < 128) with h1 | h1
                        · rw [hst, if_pos h1, if_pos (by omega)]
                        · rw [hst, if_neg h1]
                          exact numG_big _ _ _ _ (by omega))
                   | exact absurd rfl c0p
                   | exact absurd c0p (by simp)
               · rfl
             rw [hn]
             exact ⟨_, res1 rfl rfl, rfl, H14⟩)
    · have c0p := of_n_f c0
      refine wc_exit ?_
      refine wc_seq ?_
      refine wc_region ?_
      refine wl_v rfl rfl rfl (v_move rfl) ?_
      refine wl_v rfl rfl rfl (v_nil rfl) ?_
      refine wl_v rfl rfl rfl (v_fb (o2 := 2) fa115_2 rfl rfl) ?_
      refine wl_store (vs := [_]) H (UU _ _) sz4 rfl rfl rfl rfl rfl (by (repeat constructor)) ?_
      intro w15 H16 hw15
      refine wl_nil ?_
      refine wc_seq ?_
      refine wc_region ?_
      refine wl_v rfl rfl rfl (v_assign rfl) ?_
      refine wl_nil ?_
      refine wc_ret ?_
      first
        | (have hst := hst' (by omega)
           have hn : num (bs.drop a) = some ((acc + ((bs.getD (a + j) 0).toNat % 128) * 2 ^ (7 * j)), bs.drop (a + j + 1)) := by rw [hst, if_pos (by omega), if_neg (by omega)]
           have hd : bs.length - (bs.drop (a + j + 1)).length = a + j + 1 := by rw [List.length_drop]; omega
           subst c0p
           rw [nxtS_some hn, hd]
           exact ⟨_, res1 rfl rfl, rfl, H16⟩)
        | (have hn : nxtS bs a bad = (0, a, true) := by
             cases bad
             · refine nxtS_none ?_
               first
                 | (rw [he, List.drop_of_length_le (by omega)]; exact numG_nil _ _ _)
                 | (rcases (by omega : j = 5 ∨ j < 5) with rfl | hj5
                    · rw [he]; rfl
                    · have hst := hst' hj5
                      rcases (by omega : bs.getD (a + j) 0 < 128 ∨ ¬ bs.getD (a + j) 0 < 128) with h1 | h1
                      · rw [hst, if_pos h1, if_pos (by omega)]
                      · rw [hst, if_neg h1]
                        exact numG_big _ _ _ _ (by omega))
                 | exact absurd rfl c0p
                 | exact absurd c0p (by simp)
             · rfl
           rw [hn]
           exact ⟨_, res1 rfl rfl, rfl, H16⟩)
  · have g17p := of_decide_eq_false g17
    refine wl_off rfl rfl g17 rfl ?_
    refine wl_off rfl rfl g17 rfl ?_
    refine wl_off rfl rfl g17 rfl ?_
    refine wl_off rfl rfl g17 rfl ?_
    refine wl_v rfl rfl rfl (v_pick_f rfl g17 rfl) ?_
    refine wl_nil ?_
    refine wc_cond_f rfl ?_
    refine wc_exit ?_
    refine wc_seq ?_
    refine wc_region ?_
    refine wl_v rfl rfl rfl (v_move rfl) ?_
    refine wl_v rfl rfl rfl (v_nil rfl) ?_
    refine wl_v rfl rfl rfl (v_fb (o2 := 2) fa115_2 rfl rfl) ?_
    refine wl_store (vs := [_]) H (UU _ _) sz4 rfl rfl rfl rfl rfl (by (repeat constructor)) ?_
    intro w17 H18 hw17
    refine wl_nil ?_
    refine wc_seq ?_
    refine wc_region ?_
    refine wl_v rfl rfl rfl (v_assign rfl) ?_
    refine wl_nil ?_
    refine wc_ret ?_
    first
      | (have hst := hst' (by omega)
         have hn : num (bs.drop a) = some ((acc + ((bs.getD (a + j) 0).toNat % 128) * 2 ^ (7 * j)), bs.drop (a + j + 1)) := by rw [hst, if_pos (by omega), if_neg (by omega)]
         have hd : bs.length - (bs.drop (a + j + 1)).length = a + j + 1 := by rw [List.length_drop]; omega
         subst c0p
         rw [nxtS_some hn, hd]
         exact ⟨_, res1 rfl rfl, rfl, H18⟩)
      | (have hn : nxtS bs a bad = (0, a, true) := by
           cases bad
           · refine nxtS_none ?_
             first
               | (rw [he, List.drop_of_length_le (by omega)]; exact numG_nil _ _ _)
               | (rcases (by omega : j = 5 ∨ j < 5) with rfl | hj5
                  · rw [he]; rfl
                  · have hst := hst' hj5
                    rcases (by omega : bs.getD (a + j) 0 < 128 ∨ ¬ bs.getD (a + j) 0 < 128) with h1 | h1
                    · rw [hst, if_pos h1, if_pos (by omega)]
                    · rw [hst, if_neg h1]
                      exact numG_big _ _ _ _ (by omega))
               | exact absurd rfl c0p
               | exact absurd c0p (by simp)
           · rfl
         rw [hn]
         exact ⟨_, res1 rfl rfl, rfl, H18⟩)
end Go.Proofs.Ytkpehkadammppaa.NumW

/-! Numbers written, seven bits a byte. -/
namespace Go.Proofs.Ytkpehkadammppaa.ShortW
open Go Go.RowKit Go.Proofs.YtkpehkadammppaaFx 
theorem info5 : (Try.prog.info? 5).map (fun i => (i.zero, i.size, i.bytes)) = some (some (.int .u8 0), 1, 1) := by kernel_rfl
theorem sz5 : ∀ W, (sizeOf 5).run Try.prog W = .ok 1 W := size_of (by kernel_rfl)
theorem zv5 : ∀ W, (zeroValue 5).run Try.prog W = .ok (.int .u8 0) W := zero_of (by kernel_rfl)

set_option maxRecDepth 100000 in
theorem short_calls {v : Value} {n : Nat} {w0 w : World} {xs : List Int} {LL : Value → List Int → List Ch} (UU : ∀ v x v' y, Upd (LL v x) (Row (fInt .u8) 5 v x) (Row (fInt .u8) 5 v' y) (LL v' y)) (HH : Holds w0 (LL v xs) w) (hb : (xs ++ vint n).length ≤ 70368744177664) (hn : n ≤ 4611686018427387904) :
    Calls Try.prog 52 #[v, .int .i64 n] w fun e w' => ∃ r, e = .returned r ∧ ∃ A c, r = .slice A (xs ++ vint n).length c ∧ Holds w0 (LL (.slice A (xs ++ vint n).length c) (xs ++ vint n)) w' := by
  refine calls_of Try.func52 rfl Try.ntmps52 rfl ?_
  have H := HH
  refine wc_seq ?_
  refine wc_region ?_
  refine wl_v rfl rfl rfl (v_assign rfl) ?_
  refine wl_nil ?_
  refine wc_seq ?_
  refine wc_block ?_
  refine wc_loop (σ := Nat × Value × List Int) (fun s => [(0, s.2.1), (1, .int .i64 s.1)]) (fun s W => (s.1 ≤ n ∧ s.2.2 ++ vint s.1 = xs ++ vint n) ∧ Holds w0 (LL s.2.1 s.2.2) W) (fun s => s.1) (n, v, xs) (sc rfl (sc rfl (sn _))) ⟨⟨Nat.le_refl _, rfl⟩, H⟩ ?_
  rintro ⟨m, u, ys⟩ W0 ⟨⟨hm, he⟩, H⟩
  dsimp only at hm he H ⊢
  have hl := congrArg List.length he
  rw [List.length_append] at hl
  have hp := vint_pos m
  refine wc_seq ?_
  refine wc_seq ?_
  refine wc_region ?_
  refine wl_v rfl rfl rfl (v_move rfl) ?_
  refine wl_v rfl rfl rfl (v_geq rfl rfl) ?_
  refine wl_nil ?_
  refine wc_cond rfl (fun c0 => ?_) (fun c0 => ?_)
  · have c0p := of_decide_eq_true c0
    refine wc_skip ?_
    refine wc_block ?_
    refine wc_seq ?_
    refine wc_region ?_
    refine wl_v rfl rfl rfl (v_move rfl) ?_
    refine wl_v rfl rfl rfl (v_move rfl) ?_
    refine wl_v rfl rfl rfl (v_conv Try.underlying3 Try.underlying5 rfl) ?_
    refine wl_v rfl rfl rfl (v_or rfl rfl) ?_
    rw [show bits .or .u8 (IntKind.u8.wrap (m : Int)) 128 = ((m % 128 + 128 : Nat) : Int) by rw [IntKind.wrap_u8, or128 (by omega)]; omega]
    refine wl_slit (v := .int .u8 0) (z := [.int .u8 0]) (cs := [.int .u8 ((m % 128 + 128 : Nat) : Int)]) (sz := 1) H rfl Try.underlying64 sz5 zv5 (by decide) (by decide) (by kernel_rfl) rfl (by repeat constructor) ?_
    intro b11 w2 hb11 H2 hs2
    refine wl_app1 (f := fInt .u8) (xs := ys) (y' := ((m % 128 + 128 : Nat) : Int)) (L' := fun v' => Blk b11 5 [.int .u8 ((m % 128 + 128 : Nat) : Int)] :: LL v' (ys ++ [((m % 128 + 128 : Nat) : Int)])) H2 (fun v' => .there _ (UU _ _ _ _)) (.here _ _ _) rfl Try.underlying64 info5 rfl (by decide) rfl rfl rfl (by omega) (by decide) ?_
    intro A12 c12 w3 H30 hs3
    have H3 := H30.tail
    refine wl_v rfl rfl rfl (v_assign rfl) ?_
    refine wl_nil ?_
    refine wc_region ?_
    refine wl_v rfl rfl rfl (v_move rfl) ?_
    refine wl_v rfl rfl rfl (v_shr rfl rfl (by decide) (by decide)) ?_
    rw [show (m : Int) / 2 ^ (7 : Int).toNat = ((m / 128 : Nat) : Int) by rw [show (2 : Int) ^ (7 : Int).toNat = 128 from rfl]; omega]
    refine wl_v rfl rfl rfl (v_assign rfl) ?_
    refine wl_nil ?_
    exact ⟨(m / 128, .slice A12 (ys ++ [((m % 128 + 128 : Nat) : Int)]).length c12, ys ++ [((m % 128 + 128 : Nat) : Int)]), (sc rfl (sc rfl (sn _))), ⟨⟨by dsimp only; omega, by dsimp only; rw [← he, vint_ge (n := m) (by omega), List.append_assoc]; rfl⟩, H3⟩, by dsimp only; omega⟩
  · have c0p := of_decide_eq_false c0
    rw [vint_lt (n := m) (by omega)] at he
    refine wc_exit ?_
    refine wc_seq ?_
    refine wc_region ?_
    refine wl_v rfl rfl rfl (v_move rfl) ?_
    refine wl_v rfl rfl rfl (v_move rfl) ?_
    refine wl_v rfl rfl rfl (v_conv Try.underlying3 Try.underlying5 rfl) ?_
    rw [show IntKind.u8.wrap (m : Int) = (m : Int) by rw [IntKind.wrap_u8]; omega]
    refine wl_slit (v := .int .u8 0) (z := [.int .u8 0]) (cs := [.int .u8 (m : Int)]) (sz := 1) H rfl Try.underlying64 sz5 zv5 (by decide) (by decide) (by kernel_rfl) rfl (by repeat constructor) ?_
    intro b18 w6 hb18 H6 hs6
    refine wl_app1 (f := fInt .u8) (xs := ys) (y' := (m : Int)) (L' := fun v' => Blk b18 5 [.int .u8 (m : Int)] :: LL v' (ys ++ [(m : Int)])) H6 (fun v' => .there _ (UU _ _ _ _)) (.here _ _ _) rfl Try.underlying64 info5 rfl (by decide) rfl rfl rfl (by omega) (by decide) ?_
    intro A19 c19 w7 H70 hs7
    have H7 := H70.tail
    refine wl_v rfl rfl rfl (v_assign rfl) ?_
    refine wl_nil ?_
    refine wc_ret ?_
    rw [he] at H7
    exact ⟨_, res1 rfl rfl, _, _, by rw [he], H7⟩

set_option maxRecDepth 100000 in
theorem uint_calls {n : Nat} {w : World} (hn : n ≤ 4611686018427387904) :
    Calls Try.prog 53 #[.int .i64 n] w fun e w' => ∃ r, e = .returned r ∧ ∃ A c, r = .slice A (vint n).length c ∧ Holds w [Row (fInt .u8) 5 (.slice A (vint n).length c) (vint n)] w' := by
  have hvl := vint_len 10 n (by simp only [Nat.reducePow]; omega) (by decide)
  refine calls_of Try.func53 rfl Try.ntmps53 rfl ?_
  have H := Holds.start w
  refine wc_seq ?_
  refine wc_region ?_
  refine wl_v rfl rfl rfl (v_assign rfl) ?_
  refine wl_nil ?_
  refine wc_seq ?_
  refine wc_region ?_
  refine wl_v rfl rfl rfl (v_assign rfl) ?_
  refine wl_nil ?_
  refine wc_seq ?_
  refine wc_block ?_
  refine wc_loop (σ := Nat × (Option Addr × Nat) × List Int) (fun s => [(0, .int .i64 s.1), (3, .slice s.2.1.1 s.2.2.length s.2.1.2)]) (fun s W => (s.1 ≤ n ∧ s.2.2 ++ vint s.1 = vint n) ∧ Holds w [Row (fInt .u8) 5 (.slice s.2.1.1 s.2.2.length s.2.1.2) s.2.2] W) (fun s => s.1) (n, (none, 0), []) (sc rfl (sc rfl (sn _))) ⟨⟨Nat.le_refl _, rfl⟩, H.nilrow 5 1⟩ ?_
  rintro ⟨m, ⟨A3, c3⟩, ys⟩ W0 ⟨⟨hm, he⟩, H⟩
  dsimp only at hm he H ⊢
  have hl := congrArg List.length he
  rw [List.length_append] at hl
  have hp := vint_pos m
  refine wc_seq ?_
  refine wc_seq ?_
  refine wc_region ?_
  refine wl_v rfl rfl rfl (v_move rfl) ?_
  refine wl_v rfl rfl rfl (v_geq rfl rfl) ?_
  refine wl_nil ?_
  refine wc_cond rfl (fun c0 => ?_) (fun c0 => ?_)
  · have c0p := of_decide_eq_true c0
    refine wc_skip ?_
    refine wc_block ?_
    refine wc_seq ?_
    refine wc_region ?_
    refine wl_v rfl rfl rfl (v_move rfl) ?_
    refine wl_v rfl rfl rfl (v_move rfl) ?_
    refine wl_v rfl rfl rfl (v_rem rfl rfl (by decide)) ?_
    rw [show Int.tmod (m : Int) 128 = ((m % 128 : Nat) : Int) by rw [Int.tmod_eq_emod_of_nonneg (by omega)]; omega]
    refine wl_v rfl rfl rfl (v_addi rfl rfl (by omega)) ?_
    refine wl_v rfl rfl rfl (v_conv Try.underlying3 Try.underlying5 rfl) ?_
    rw [show IntKind.u8.wrap (((m % 128 : Nat) : Int) + 128) = ((m % 128 + 128 : Nat) : Int) by rw [IntKind.wrap_u8]; omega]
    refine wl_slit (v := .int .u8 0) (z := [.int .u8 0]) (cs := [.int .u8 ((m % 128 + 128 : Nat) : Int)]) (sz := 1) H rfl Try.underlying64 sz5 zv5 (by decide) (by decide) (by kernel_rfl) rfl (by repeat constructor) ?_
    intro b11 w3 hb11 H3 hs3
    refine wl_app1 (f := fInt .u8) (xs := ys) (y' := ((m % 128 + 128 : Nat) : Int)) H3 (fun v' => (by repeat constructor)) (by repeat constructor) rfl Try.underlying64 info5 rfl (by decide) rfl rfl rfl (by omega) (by decide) ?_
    intro A12 c12 w4 H40 hs4
    have H4 := H40.tail
    refine wl_v rfl rfl rfl (v_assign rfl) ?_
    refine wl_nil ?_
    refine wc_region ?_
    refine wl_v rfl rfl rfl (v_move rfl) ?_
    refine wl_v rfl rfl rfl (v_quo rfl rfl (by decide)) ?_
    rw [show IntKind.i64.wrap (Int.tdiv (m : Int) 128) = ((m / 128 : Nat) : Int) by rw [Int.tdiv_eq_ediv_of_nonneg (by omega), IntWalk.i64_in _ (by omega)]; omega]
    refine wl_v rfl rfl rfl (v_assign rfl) ?_
    refine wl_nil ?_
    exact ⟨(m / 128, (A12, c12), ys ++ [((m % 128 + 128 : Nat) : Int)]), (sc rfl (sc rfl (sn _))), ⟨⟨by dsimp only; omega, by dsimp only; rw [← he, vint_ge (n := m) (by omega), List.append_assoc]; rfl⟩, H4⟩, by dsimp only; omega⟩
  · have c0p := of_decide_eq_false c0
    rw [vint_lt (n := m) (by omega)] at he
    refine wc_exit ?_
    refine wc_seq ?_
    refine wc_region ?_
    refine wl_v rfl rfl rfl (v_move rfl) ?_
    refine wl_v rfl rfl rfl (v_move rfl) ?_
    refine wl_v rfl rfl rfl (v_conv Try.underlying3 Try.underlying5 rfl) ?_
    rw [show IntKind.u8.wrap (m : Int) = (m : Int) by rw [IntKind.wrap_u8]; omega]
    refine wl_slit (v := .int .u8 0) (z := [.int .u8 0]) (cs := [.int .u8 (m : Int)]) (sz := 1) H rfl Try.underlying64 sz5 zv5 (by decide) (by decide) (by kernel_rfl) rfl (by repeat constructor) ?_
    intro b18 w7 hb18 H7 hs7
    refine wl_app1 (f := fInt .u8) (xs := ys) (y' := (m : Int)) H7 (fun v' => (by repeat constructor)) (by repeat constructor) rfl Try.underlying64 info5 rfl (by decide) rfl rfl rfl (by omega) (by decide) ?_
    intro A19 c19 w8 H80 hs8
    have H8 := H80.tail
    refine wl_v rfl rfl rfl (v_assign rfl) ?_
    refine wl_nil ?_
    refine wc_ret ?_
    rw [he] at H8
    exact ⟨_, res1 rfl rfl, _, _, by rw [he], H8⟩

theorem uint_callsI {x : Int} {w : World} (h0 : 0 ≤ x) (h1 : x ≤ 4611686018427387904) :
    Calls Try.prog 53 #[.int .i64 x] w fun e w' => ∃ r, e = .returned r ∧ ∃ A c, r = .slice A (vint x.toNat).length c ∧ Holds w [Row (fInt .u8) 5 (.slice A (vint x.toNat).length c) (vint x.toNat)] w' := by
  have h := uint_calls (n := x.toNat) (w := w) (by omega)
  rw [Int.toNat_of_nonneg h0] at h
  exact h
end Go.Proofs.Ytkpehkadammppaa.ShortW
