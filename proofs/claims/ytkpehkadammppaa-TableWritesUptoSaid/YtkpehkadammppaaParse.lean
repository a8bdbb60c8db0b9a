/- Bytes read as a table: plain. -/
import Derived.Test.YtkpehkadammppaaByts
import Derived.Laws.BytesArg
set_option linter.unusedVariables false
namespace Go.Proofs.YtkpehkadammppaaFx
open Go Go.RowKit
theorem Bytes.drop {bs : List Int} (h : Bytes bs) (k : Nat) : Bytes (bs.drop k) := fun x hx => h x (List.mem_of_mem_drop hx)
theorem Bytes.right {a b : List Int} (h : Bytes (a ++ b)) : Bytes b := fun x hx => h x (List.mem_append_right _ hx)
theorem num_rest {n : Nat} {bs r : List Int} (hB : Bytes bs) (h : num bs = some (n, r)) : Bytes r ∧ r.length < bs.length ∧ n ≤ 2147483647 := by
  obtain ⟨h1, h2⟩ := num_is hB h
  subst h1
  have := vint_pos n
  exact ⟨hB.right, by rw [List.length_append]; omega, h2⟩
theorem numG_suffix : ∀ (k acc sh n : Nat) (bs r : List Int), numG k acc sh bs = some (n, r) → ∃ j, r = bs.drop j ∧ j ≤ bs.length
  | 0, _, _, _, _, _, h => by simp [numG] at h
  | _ + 1, _, _, _, [], _, h => by simp [numG] at h
  | k + 1, acc, sh, n, c :: bs, r, h => by
    unfold numG at h
    split at h
    · split at h
      · cases h
      · injection h with h
        injection h with _ h
        exact ⟨1, h.symm, by simp⟩
    · obtain ⟨j, h1, h2⟩ := numG_suffix k _ _ n bs r h
      exact ⟨j + 1, h1, by simp; omega⟩
theorem num_suffix {n : Nat} {bs r : List Int} (h : num bs = some (n, r)) : r = bs.drop (bs.length - r.length) := by
  obtain ⟨j, h1, h2⟩ := numG_suffix _ _ _ _ _ _ h
  subst h1
  rw [List.length_drop, show bs.length - (bs.length - j) = j by omega]
/-- The program's reading of one number: the number, what is left, whether it is bad. -/
def numS (bs : List Int) (bad : Bool) : Nat × List Int × Bool := match num bs with
  | some (n, r) => (n, r, bad)
  | none => (0, bs, true)
theorem numS_some {bs r : List Int} {n : Nat} {bad : Bool} (h : num bs = some (n, r)) : numS bs bad = (n, r, bad) := by rw [numS, h]
theorem numS_none {bs : List Int} {bad : Bool} (h : num bs = none) : numS bs bad = (0, bs, true) := by rw [numS, h]
/-- The document's: its place in the bytes. -/
def nxtS (bs : List Int) (at_ : Nat) (bad : Bool) : Nat × Nat × Bool := if bad then (0, at_, true) else match num (bs.drop at_) with
  | some (n, r) => (n, bs.length - r.length, false)
  | none => (0, at_, true)
theorem nxtS_bad (bs : List Int) (at_ : Nat) : nxtS bs at_ true = (0, at_, true) := rfl
theorem nxtS_some {bs r : List Int} {n a : Nat} (h : num (bs.drop a) = some (n, r)) : nxtS bs a false = (n, bs.length - r.length, false) := by rw [nxtS, h]; rfl
theorem nxtS_none {bs : List Int} {a : Nat} (h : num (bs.drop a) = none) : nxtS bs a false = (0, a, true) := by rw [nxtS, h]; rfl
/-- Behind a number, its place. -/
theorem nxt_at {bs r : List Int} {n a : Nat} (ha : a ≤ bs.length) (h : num (bs.drop a) = some (n, r)) : bs.drop (bs.length - r.length) = r ∧ r.length ≤ bs.length := by
  have h1 := num_suffix h
  have h2 : r.length ≤ (bs.drop a).length := by
    have := congrArg List.length h1
    rw [List.length_drop] at this
    omega
  rw [List.length_drop] at h1 h2
  refine ⟨?_, by omega⟩
  conv => rhs; rw [h1]
  rw [List.drop_drop]
  congr 1
  omega
/-- One step of the reading. -/
theorem numG_step {k acc sh i : Nat} {bs : List Int} (hi : i < bs.length) : numG (k + 1) acc sh (bs.drop i) =
    if bs.getD i 0 < 128 then if (bs.getD i 0 = 0 ∧ 0 < sh) ∨ 2147483647 < acc + ((bs.getD i 0).toNat % 128) * 2 ^ sh then none else some (acc + ((bs.getD i 0).toNat % 128) * 2 ^ sh, bs.drop (i + 1))
    else numG k (acc + ((bs.getD i 0).toNat % 128) * 2 ^ sh) (sh + 7) (bs.drop (i + 1)) := by
  rw [List.drop_eq_getElem_cons hi]
  have e : bs.getD i 0 = bs[i] := by rw [List.getD_eq_getElem?_getD, List.getElem?_eq_getElem hi]; rfl
  rw [e]
  rfl
theorem numG_nil (k acc sh : Nat) : numG k acc sh [] = none := by cases k <;> rfl
/-! ### rows -/
def pMvs : Nat → List Int → Option (List Mv × List Int)
  | 0, bs => some ([], bs)
  | k + 1, bs => (num bs).bind fun d => (num d.2).bind fun n => (pMvs k n.2).map fun x => (⟨d.1, n.1⟩ :: x.1, x.2)
def pGos : Nat → List Int → Option (List Int × List Int)
  | 0, bs => some ([], bs)
  | k + 1, bs => (num bs).bind fun d => (pGos k d.2).map fun x => (((d.1 : Int) - 1) :: x.1, x.2)
def pRows (kinds rules : Nat) : Nat → List Int → Option (Tb × List Int)
  | 0, bs => some (⟨[], []⟩, bs)
  | s + 1, bs => (pMvs kinds bs).bind fun m => (pGos rules m.2).bind fun g => (pRows kinds rules s g.2).map fun x => (⟨m.1 :: x.1.mv, g.1 :: x.1.go⟩, x.2)
theorem pMvs_succ (k : Nat) (bs : List Int) : pMvs (k + 1) bs = (num bs).bind fun d => (num d.2).bind fun n => (pMvs k n.2).map fun x => (⟨d.1, n.1⟩ :: x.1, x.2) := rfl
theorem pGos_succ (k : Nat) (bs : List Int) : pGos (k + 1) bs = (num bs).bind fun d => (pGos k d.2).map fun x => (((d.1 : Int) - 1) :: x.1, x.2) := rfl
theorem pRows_succ (kinds rules s : Nat) (bs : List Int) : pRows kinds rules (s + 1) bs = (pMvs kinds bs).bind fun m => (pGos rules m.2).bind fun g => (pRows kinds rules s g.2).map fun x => (⟨m.1 :: x.1.mv, g.1 :: x.1.go⟩, x.2) := rfl
/-- More in front. -/
def preM (ms : List Mv) (x : List Mv × List Int) : List Mv × List Int := (ms ++ x.1, x.2)
def preG (gs : List Int) (x : List Int × List Int) : List Int × List Int := (gs ++ x.1, x.2)
def preT (t : Tb) (x : Tb × List Int) : Tb × List Int := (⟨t.mv ++ x.1.mv, t.go ++ x.1.go⟩, x.2)
theorem pMvs_step {k : Nat} {bs r r2 : List Int} {d n : Nat} {ms : List Mv} (h1 : num bs = some (d, r)) (h2 : num r = some (n, r2)) : (pMvs (k + 1) bs).map (preM ms) = (pMvs k r2).map (preM (ms ++ [⟨d, n⟩])) := by
  rw [pMvs_succ, h1]
  simp only [Option.bind_some, h2, Option.map_map]
  congr 1
  funext x
  simp [preM]
theorem pMvs_no1 {k : Nat} {bs : List Int} (h1 : num bs = none) : pMvs (k + 1) bs = none := by rw [pMvs_succ, h1]; rfl
theorem pMvs_no2 {k : Nat} {bs r : List Int} {d : Nat} (h1 : num bs = some (d, r)) (h2 : num r = none) : pMvs (k + 1) bs = none := by rw [pMvs_succ, h1]; simp [h2]
theorem pGos_step {k : Nat} {bs r : List Int} {d : Nat} {gs : List Int} (h1 : num bs = some (d, r)) : (pGos (k + 1) bs).map (preG gs) = (pGos k r).map (preG (gs ++ [(d : Int) - 1])) := by
  rw [pGos_succ, h1]
  simp only [Option.bind_some, Option.map_map]
  congr 1
  funext x
  simp [preG]
theorem pGos_no {k : Nat} {bs : List Int} (h1 : num bs = none) : pGos (k + 1) bs = none := by rw [pGos_succ, h1]; rfl
theorem pRows_step {kinds rules s : Nat} {bs r r2 : List Int} {ms : List Mv} {gs : List Int} {t : Tb} (h1 : pMvs kinds bs = some (ms, r)) (h2 : pGos rules r = some (gs, r2)) : (pRows kinds rules (s + 1) bs).map (preT t) = (pRows kinds rules s r2).map (preT ⟨t.mv ++ [ms], t.go ++ [gs]⟩) := by
  rw [pRows_succ, h1]
  simp only [Option.bind_some, h2, Option.map_map]
  congr 1
  funext x
  simp [preT]
theorem pRows_no1 {kinds rules s : Nat} {bs : List Int} (h1 : pMvs kinds bs = none) : pRows kinds rules (s + 1) bs = none := by rw [pRows_succ, h1]; rfl
theorem pRows_no2 {kinds rules s : Nat} {bs r : List Int} {ms : List Mv} (h1 : pMvs kinds bs = some (ms, r)) (h2 : pGos rules r = none) : pRows kinds rules (s + 1) bs = none := by rw [pRows_succ, h1]; simp [h2]
theorem map_none_iff {α β : Type} {f : α → β} {o : Option α} (h : o.map f = none) : o = none := by cases o <;> simp_all
/-! ### what was read -/
theorem pMvs_is : ∀ (k : Nat) (bs r : List Int) (ms : List Mv), Bytes bs → pMvs k bs = some (ms, r) → bs = mvsB ms ++ r ∧ ms.length = k ∧ ∀ m ∈ ms, okMv m
  | 0, bs, r, ms, _, h => by
    simp only [pMvs, Option.some.injEq, Prod.mk.injEq] at h
    obtain ⟨rfl, rfl⟩ := h
    exact ⟨rfl, rfl, fun m hm => by simp at hm⟩
  | k + 1, bs, r, ms, hB, h => by
    unfold pMvs at h
    rw [Option.bind_eq_some_iff] at h
    obtain ⟨⟨d, r1⟩, h1, h⟩ := h
    rw [Option.bind_eq_some_iff] at h
    obtain ⟨⟨n, r2⟩, h2, h⟩ := h
    obtain ⟨⟨xs, r3⟩, h3, h⟩ := Option.map_eq_some_iff.1 h
    simp only [Prod.mk.injEq] at h
    obtain ⟨rfl, rfl⟩ := h
    dsimp only at h2 h3
    obtain ⟨e1, l1⟩ := num_is hB h1
    subst e1
    obtain ⟨e2, l2⟩ := num_is hB.right h2
    subst e2
    obtain ⟨e3, l3, l4⟩ := pMvs_is k r2 r3 xs hB.right.right h3
    subst e3
    refine ⟨?_, by simp [l3], fun m hm => ?_⟩
    · show _ = mvB _ ++ mvsB xs ++ r3
      rw [mvB]
      simp only [Int.toNat_natCast, List.append_assoc]
    · rcases List.mem_cons.1 hm with rfl | hm
      · exact ⟨by dsimp only; omega, by dsimp only; omega, by dsimp only; omega, by dsimp only; omega⟩
      · exact l4 m hm
theorem pGos_is : ∀ (k : Nat) (bs r : List Int) (gs : List Int), Bytes bs → pGos k bs = some (gs, r) → bs = gosB gs ++ r ∧ gs.length = k ∧ ∀ x ∈ gs, okGo x
  | 0, bs, r, ms, _, h => by
    simp only [pGos, Option.some.injEq, Prod.mk.injEq] at h
    obtain ⟨rfl, rfl⟩ := h
    exact ⟨rfl, rfl, fun m hm => by simp at hm⟩
  | k + 1, bs, r, ms, hB, h => by
    unfold pGos at h
    rw [Option.bind_eq_some_iff] at h
    obtain ⟨⟨d, r1⟩, h1, h⟩ := h
    obtain ⟨⟨xs, r3⟩, h3, h⟩ := Option.map_eq_some_iff.1 h
    simp only [Prod.mk.injEq] at h
    obtain ⟨rfl, rfl⟩ := h
    dsimp only at h3
    obtain ⟨e1, l1⟩ := num_is hB h1
    subst e1
    obtain ⟨e3, l3, l4⟩ := pGos_is k r1 r3 xs hB.right h3
    subst e3
    refine ⟨?_, by simp [l3], fun m hm => ?_⟩
    · show _ = goB _ ++ gosB xs ++ r3
      rw [goB, show (d : Int) - 1 + 1 = d by omega, Int.toNat_natCast]
      simp only [List.append_assoc]
    · rcases List.mem_cons.1 hm with rfl | hm
      · exact ⟨by omega, by omega⟩
      · exact l4 m hm
/-- All rows' bytes. -/
def zipB : List (List Mv) → List (List Int) → List Int
  | m :: ms, g :: gs => mvsB m ++ gosB g ++ zipB ms gs
  | _, _ => []
theorem pRows_is {kinds rules : Nat} : ∀ (s : Nat) (bs r : List Int) (t : Tb), Bytes bs → pRows kinds rules s bs = some (t, r) →
    bs = zipB t.mv t.go ++ r ∧ t.mv.length = s ∧ t.go.length = s ∧ (∀ x ∈ t.mv, x.length = kinds ∧ ∀ m ∈ x, okMv m) ∧ ∀ x ∈ t.go, x.length = rules ∧ ∀ g ∈ x, okGo g
  | 0, bs, r, t, _, h => by
    simp only [pRows, Option.some.injEq, Prod.mk.injEq] at h
    obtain ⟨rfl, rfl⟩ := h
    exact ⟨rfl, rfl, rfl, fun m hm => by simp at hm, fun m hm => by simp at hm⟩
  | s + 1, bs, r, t, hB, h => by
    unfold pRows at h
    rw [Option.bind_eq_some_iff] at h
    obtain ⟨⟨ms, r1⟩, h1, h⟩ := h
    rw [Option.bind_eq_some_iff] at h
    obtain ⟨⟨gs, r2⟩, h2, h⟩ := h
    obtain ⟨⟨xs, r3⟩, h3, h⟩ := Option.map_eq_some_iff.1 h
    simp only [Prod.mk.injEq] at h
    obtain ⟨rfl, rfl⟩ := h
    dsimp only at h2 h3
    obtain ⟨e1, l1, o1⟩ := pMvs_is kinds bs r1 ms hB h1
    subst e1
    obtain ⟨e2, l2, o2⟩ := pGos_is rules r1 r2 gs hB.right h2
    subst e2
    obtain ⟨e3, l3, l4, l5, l6⟩ := pRows_is s r2 r3 xs hB.right.right h3
    subst e3
    refine ⟨by simp only [zipB, List.append_assoc], by simp [l3], by simp [l4], fun x hx => ?_, fun x hx => ?_⟩
    · rcases List.mem_cons.1 hx with rfl | hx
      · exact ⟨l1, o1⟩
      · exact l5 x hx
    · rcases List.mem_cons.1 hx with rfl | hx
      · exact ⟨l2, o2⟩
      · exact l6 x hx
theorem zipB_rows : ∀ (ms : List (List Mv)) (gs : List (List Int)), gs.length = ms.length → zipB ms gs = (List.range ms.length).flatMap fun s => mvsB (ms.getD s []) ++ gosB (gs.getD s [])
  | [], [], _ => rfl
  | [], _ :: _, h => by simp at h
  | _ :: _, [], h => by simp at h
  | m :: ms, g :: gs, h => by
    rw [zipB, zipB_rows ms gs (by simpa using h), List.length_cons, List.range_succ_eq_map, List.flatMap_cons, List.flatMap_map]
    rfl
theorem zipB_tb {t : Tb} (h : t.go.length = t.mv.length) : zipB t.mv t.go = rowsB t t.mv.length := zipB_rows t.mv t.go h
/-! ### and back -/
theorem pMvs_of : ∀ (ms : List Mv) (r : List Int), (∀ m ∈ ms, okMv m) → pMvs ms.length (mvsB ms ++ r) = some (ms, r)
  | [], r, _ => rfl
  | m :: ms, r, h => by
    obtain ⟨h1, h2, h3, h4⟩ := h m (List.mem_cons_self ..)
    have ih := pMvs_of ms r fun x hx => h x (List.mem_cons_of_mem _ hx)
    have e : mvsB (m :: ms) ++ r = vint m.d.toNat ++ (vint m.n.toNat ++ (mvsB ms ++ r)) := by
      show mvB m ++ mvsB ms ++ r = _
      rw [mvB]
      simp only [List.append_assoc]
    rw [e, List.length_cons]
    unfold pMvs
    rw [num_vint _ (by omega)]
    simp only [Option.bind_some, num_vint (n := m.n.toNat) _ (by omega), ih, Option.map_some, Int.toNat_of_nonneg h1, Int.toNat_of_nonneg h3]
theorem pGos_of : ∀ (gs : List Int) (r : List Int), (∀ x ∈ gs, okGo x) → pGos gs.length (gosB gs ++ r) = some (gs, r)
  | [], r, _ => rfl
  | x :: gs, r, h => by
    obtain ⟨h1, h2⟩ := h x (List.mem_cons_self ..)
    have ih := pGos_of gs r fun x hx => h x (List.mem_cons_of_mem _ hx)
    have e : gosB (x :: gs) ++ r = vint (x + 1).toNat ++ (gosB gs ++ r) := by
      show goB x ++ gosB gs ++ r = _
      rw [goB, List.append_assoc]
    rw [e, List.length_cons]
    unfold pGos
    rw [num_vint _ (by omega)]
    simp only [Option.bind_some, ih, Option.map_some, Int.toNat_of_nonneg (show 0 ≤ x + 1 by omega), show x + 1 - 1 = x by omega]
theorem pRows_of {kinds rules : Nat} : ∀ (ms : List (List Mv)) (gs : List (List Int)) (r : List Int), gs.length = ms.length → (∀ x ∈ ms, x.length = kinds ∧ ∀ m ∈ x, okMv m) → (∀ x ∈ gs, x.length = rules ∧ ∀ g ∈ x, okGo g) → pRows kinds rules ms.length (zipB ms gs ++ r) = some (⟨ms, gs⟩, r)
  | [], [], r, _, _, _ => rfl
  | [], _ :: _, _, h, _, _ => by simp at h
  | _ :: _, [], _, h, _, _ => by simp at h
  | m :: ms, g :: gs, r, h, hm, hg => by
    have ih := pRows_of (kinds := kinds) (rules := rules) ms gs r (by simpa using h) (fun x hx => hm x (List.mem_cons_of_mem _ hx)) (fun x hx => hg x (List.mem_cons_of_mem _ hx))
    obtain ⟨m1, m2⟩ := hm m (List.mem_cons_self ..)
    obtain ⟨g1, g2⟩ := hg g (List.mem_cons_self ..)
    have e : zipB (m :: ms) (g :: gs) ++ r = mvsB m ++ (gosB g ++ (zipB ms gs ++ r)) := by simp only [zipB, List.append_assoc]
    rw [e, List.length_cons]
    unfold pRows
    rw [← m1, pMvs_of m _ m2]
    simp only [Option.bind_some]
    rw [← g1, pGos_of g _ g2]
    simp only [Option.bind_some]
    rw [m1, g1, ih]
    rfl
/-- A table read: the numbers of its states, kinds and rules, the table, and what is left. -/
def pAll (bs : List Int) : Option ((Nat × Nat × Nat) × Tb × List Int) :=
  (num bs).bind fun a => (num a.2).bind fun b => (num b.2).bind fun c => (pRows b.1 c.1 a.1 c.2).map fun x => ((a.1, b.1, c.1), x)
theorem pAll_is {bs r : List Int} {s k u : Nat} {t : Tb} (hB : Bytes bs) (h : pAll bs = some ((s, k, u), t, r)) :
    bs = vint s ++ vint k ++ vint u ++ rowsB t t.mv.length ++ r ∧ t.mv.length = s ∧ t.go.length = s ∧ (∀ x ∈ t.mv, x.length = k ∧ ∀ m ∈ x, okMv m) ∧ ∀ x ∈ t.go, x.length = u ∧ ∀ g ∈ x, okGo g := by
  unfold pAll at h
  rw [Option.bind_eq_some_iff] at h
  obtain ⟨⟨a, r1⟩, h1, h⟩ := h
  rw [Option.bind_eq_some_iff] at h
  obtain ⟨⟨b, r2⟩, h2, h⟩ := h
  rw [Option.bind_eq_some_iff] at h
  obtain ⟨⟨c, r3⟩, h3, h⟩ := h
  obtain ⟨⟨xs, r4⟩, h4, h⟩ := Option.map_eq_some_iff.1 h
  simp only [Prod.mk.injEq] at h
  obtain ⟨⟨rfl, rfl, rfl⟩, rfl, rfl⟩ := h
  dsimp only at h2 h3 h4
  obtain ⟨e1, _⟩ := num_is hB h1
  subst e1
  obtain ⟨e2, _⟩ := num_is hB.right h2
  subst e2
  obtain ⟨e3, _⟩ := num_is hB.right.right h3
  subst e3
  obtain ⟨e4, l1, l2, l3, l4⟩ := pRows_is _ _ _ _ hB.right.right.right h4
  subst e4
  refine ⟨?_, l1, l2, l3, l4⟩
  rw [zipB_tb (by omega)]
  simp only [List.append_assoc]
theorem pAll_by {bs r : List Int} {s k u : Nat} {t : Tb} (hB : Bytes bs) (h : pAll bs = some ((s, k, u), t, r)) (hR : Rect t) : bs = tbB t ++ r ∧ ByOk t := by
  obtain ⟨h1, h2, h3, h4, h5⟩ := pAll_is hB h
  obtain ⟨r1, r2, r3, r4⟩ := hR
  have hk : (t.mv.getD 0 []).length = k := (h4 _ (getD_mem r1)).1
  have hu : (t.go.getD 0 []).length = u := (h5 _ (getD_mem (by omega))).1
  refine ⟨?_, ⟨r1, r2, r3, r4⟩, fun q hq => ⟨(h4 _ (getD_mem hq)).2, (h5 _ (getD_mem (by omega))).2⟩⟩
  rw [h1, tbB, headB, hk, hu, h2]
theorem pAll_of {t : Tb} (hb : BSm t) (h : ByOk t) : pAll (tbB t) = some ((t.mv.length, (t.mv.getD 0 []).length, (t.go.getD 0 []).length), t, []) := by
  obtain ⟨⟨r1, r2, r3, r4⟩, hok⟩ := h
  have q1 := hb.m
  have q2 := hb.ml (i := 0) r1
  have q3 := hb.gl (i := 0) (by omega)
  have e : tbB t = vint t.mv.length ++ (vint (t.mv.getD 0 []).length ++ (vint (t.go.getD 0 []).length ++ (zipB t.mv t.go ++ []))) := by
    rw [tbB, headB, zipB_tb r3, List.append_nil]
    simp only [List.append_assoc]
  have hm : ∀ x ∈ t.mv, x.length = (t.mv.getD 0 []).length ∧ ∀ m ∈ x, okMv m := fun x hx => by
    obtain ⟨j, hj, rfl⟩ := List.mem_iff_getElem.1 hx
    have e1 : t.mv.getD j [] = t.mv[j] := by rw [List.getD_eq_getElem?_getD, List.getElem?_eq_getElem hj]; rfl
    have h1 := (r4 j hj).1
    have h2 := (hok j hj).1
    rw [e1] at h1 h2
    exact ⟨h1, h2⟩
  have hg : ∀ x ∈ t.go, x.length = (t.go.getD 0 []).length ∧ ∀ g ∈ x, okGo g := fun x hx => by
    obtain ⟨j, hj, rfl⟩ := List.mem_iff_getElem.1 hx
    have e1 : t.go.getD j [] = t.go[j] := by rw [List.getD_eq_getElem?_getD, List.getElem?_eq_getElem hj]; rfl
    have h1 := (r4 j (by omega)).2
    have h2 := (hok j (by omega)).2
    rw [e1] at h1 h2
    exact ⟨h1, h2⟩
  rw [e, pAll, num_vint _ (by omega)]
  simp only [Option.bind_some, num_vint (n := (t.mv.getD 0 []).length) _ (by omega), num_vint (n := (t.go.getD 0 []).length) _ (by omega), pRows_of t.mv t.go [] r3 hm hg, Option.map_some]
/-- What the program reads. -/
noncomputable def readP (bs : List Int) : Option Tb := (pAll bs).bind fun x => if dec (x.2.2 = [] ∧ Rect x.2.1) then some x.2.1 else none
/-- What the document reads. -/
noncomputable def readR (bs : List Int) : Option Tb := (pAll bs).bind fun x => if dec ((x.1.1 ≤ bs.length ∧ x.1.2.1 ≤ bs.length ∧ x.1.2.2 ≤ bs.length) ∧ ByOk x.2.1 ∧ tbB x.2.1 = bs) then some x.2.1 else none
theorem flat_ge {α : Type} (f : α → List Int) (c : Nat) : ∀ xs : List α, (∀ x ∈ xs, c ≤ (f x).length) → c * xs.length ≤ (xs.flatMap f).length
  | [], _ => by simp
  | x :: xs, h => by
    have h1 := flat_ge f c xs fun y hy => h y (List.mem_cons_of_mem _ hy)
    have h2 := h x (List.mem_cons_self ..)
    rw [List.flatMap_cons, List.length_append, List.length_cons, Nat.mul_succ]
    omega
theorem tbB_ge {t : Tb} (h : ByOk t) : t.mv.length ≤ (tbB t).length ∧ (t.mv.getD 0 []).length ≤ (tbB t).length ∧ (t.go.getD 0 []).length ≤ (tbB t).length := by
  obtain ⟨⟨r1, r2, r3, r4⟩, _⟩ := h
  have h0 : (rowB t 0).length ≤ (rowsB t t.mv.length).length := by
    obtain ⟨n, hn⟩ : ∃ n, t.mv.length = n + 1 := ⟨t.mv.length - 1, by omega⟩
    rw [rowsB, hn, List.range_succ_eq_map, List.flatMap_cons, List.length_append]
    omega
  have h1 : 2 * (t.mv.getD 0 []).length ≤ (mvsB (t.mv.getD 0 [])).length := flat_ge mvB 2 _ fun m _ => by
    have h1 := vint_pos m.d.toNat
    have h2 := vint_pos m.n.toNat
    rw [mvB, List.length_append]
    omega
  have h2 : 1 * (t.go.getD 0 []).length ≤ (gosB (t.go.getD 0 [])).length := flat_ge goB 1 _ fun x _ => vint_pos _
  have h3 : 1 * (List.range t.mv.length).length ≤ (rowsB t t.mv.length).length := flat_ge (rowB t) 1 _ fun s hs => by
    rw [List.mem_range] at hs
    have h5 : 2 * (t.mv.getD s []).length ≤ (mvsB (t.mv.getD s [])).length := flat_ge mvB 2 _ fun m _ => by
      have h1 := vint_pos m.d.toNat
      have h2 := vint_pos m.n.toNat
      rw [mvB, List.length_append]
      omega
    have h6 := (r4 s hs).1
    rw [rowB, List.length_append]
    omega
  rw [List.length_range] at h3
  rw [rowB, List.length_append] at h0
  rw [tbB, List.length_append]
  omega
theorem read_eq {bs : List Int} (hB : Bytes bs) : readP bs = readR bs := by
  unfold readP readR
  cases h : pAll bs with
  | none => rfl
  | some x =>
    obtain ⟨⟨s, k, u⟩, t, r⟩ := x
    simp only [Option.bind_some]
    rw [dec_iff (show (r = [] ∧ Rect t) ↔ ((s ≤ bs.length ∧ k ≤ bs.length ∧ u ≤ bs.length) ∧ ByOk t ∧ tbB t = bs) from ⟨fun ⟨h1, h2⟩ => ?_, fun ⟨_, h2, h3⟩ => ?_⟩)]
    · obtain ⟨e1, e2⟩ := pAll_by hB h h2
      subst h1
      rw [List.append_nil] at e1
      obtain ⟨_, l1, l2, l3, l4⟩ := pAll_is hB h
      obtain ⟨g1, g2, g3⟩ := tbB_ge e2
      have hk : (t.mv.getD 0 []).length = k := (l3 _ (getD_mem h2.1)).1
      have hu : (t.go.getD 0 []).length = u := (l4 _ (getD_mem (by have := h2.2.2.1; have := h2.1; omega))).1
      rw [← e1] at g1 g2 g3
      exact ⟨⟨by omega, by omega, by omega⟩, e2, e1.symm⟩
    · obtain ⟨e1, _⟩ := pAll_by hB h h2.1
      refine ⟨?_, h2.1⟩
      have h4 := congrArg List.length e1
      rw [List.length_append, h3] at h4
      exact List.eq_nil_of_length_eq_zero (by omega)
theorem readP_some {bs : List Int} {t : Tb} (hB : Bytes bs) (h : readP bs = some t) : ByOk t ∧ tbB t = bs := by
  rw [read_eq hB] at h
  unfold readR at h
  rw [Option.bind_eq_some_iff] at h
  obtain ⟨x, _, h⟩ := h
  split at h
  · rename_i hc
    injection h with h
    subst h
    exact (of_dec hc).2
  · cases h
theorem readP_of {t : Tb} (hb : BSm t) (h : ByOk t) : readP (tbB t) = some t := by
  unfold readP
  rw [pAll_of hb h]
  simp only [Option.bind_some]
  rw [if_pos (dec_t ⟨trivial, h.1⟩)]
theorem mvsB_bytes (ms : List Mv) : Bytes (mvsB ms) := fun x hx => by
  obtain ⟨m, _, h⟩ := List.mem_flatMap.1 hx
  rcases List.mem_append.1 h with h | h
  · exact vint_bytes _ x h
  · exact vint_bytes _ x h
theorem gosB_bytes (gs : List Int) : Bytes (gosB gs) := fun x hx => by
  obtain ⟨m, _, h⟩ := List.mem_flatMap.1 hx
  exact vint_bytes _ x h
theorem tbB_bytes (t : Tb) : Bytes (tbB t) := fun x hx => by
  rcases List.mem_append.1 hx with h | h
  · rcases List.mem_append.1 h with h | h
    · rcases List.mem_append.1 h with h | h
      · exact vint_bytes _ x h
      · exact vint_bytes _ x h
    · exact vint_bytes _ x h
  · obtain ⟨s, _, h⟩ := List.mem_flatMap.1 h
    rcases List.mem_append.1 h with h | h
    · exact mvsB_bytes _ x h
    · exact gosB_bytes _ x h
/-! ### bytes as text -/
theorem strOf_inj {xs ys : List Int} (hx : Bytes xs) (hy : Bytes ys) (h : strOfNums xs = strOfNums ys) : xs = ys := by
  have h1 : (xs.map fun n => UInt8.ofNat n.toNat) = ys.map fun n => UInt8.ofNat n.toNat := by
    have := congrArg (fun s : ByteArray => s.data.toList) h
    simpa [strOfNums] using this
  clear h
  induction xs generalizing ys with
  | nil => cases ys <;> simp_all
  | cons x xs ih =>
    cases ys with
    | nil => simp at h1
    | cons y ys =>
      simp only [List.map_cons, List.cons.injEq] at h1
      have hx0 := hx x (List.mem_cons_self ..)
      have hy0 := hy y (List.mem_cons_self ..)
      have e : x = y := by
        have := congrArg UInt8.toNat h1.1
        simp only [UInt8.toNat_ofNat'] at this
        omega
      rw [e, ih (fun z hz => hx z (List.mem_cons_of_mem _ hz)) (fun z hz => hy z (List.mem_cons_of_mem _ hz)) h1.2]
section
variable {P : Program} {n : Nat} {l : Fr} {w : World} {x : Operand} {ty t t2 e : TypeId} {pos : String} {af : Array Edge} {gd : Option (Nat × Bool)} {dst : Option Tmp} {A : Option Addr} {c : Nat} {xs : List Int}
theorem v_b2s (hs : P.underlying t = some (.slice e)) (he : P.underlying e = some (.int .u8)) (hd : P.underlying t2 = some .string) (hr : Rd (kInt .u8) w A xs) (hx : ev l x = some (.slice A xs.length c)) : Vs P n l ⟨dst, .convert t t2 x, ty, pos, af, gd⟩ w (.string (strOfNums xs)) := fun a ha => by
  rcases Nat.eq_zero_or_pos xs.length with h0 | h0
  · have hnil := List.eq_nil_of_length_eq_zero h0
    subst hnil
    cases A with
    | none => simp [execOp, ha.eval hx, run_convert_bytes_nil w t e hs he 0 c t2 hd]; rfl
    | some ad =>
      have hl : (loadCells ad 0).run P w = .ok (([] : List Int).map (Value.int .u8)).toArray w := by
        have := run_loadCells_list (P := P) w ad [] (fun j v hj => by simp at hj)
        simpa using this
      simp only [execOp, ha.eval hx, Sem.run_bind, List.length_nil]
      rw [run_convert_bytes_string w t t2 e _ 0 c hs he hd, run_bytesToString w _ 0 c [] hl]
      rfl
  · have hA := hr.ad h0
    have hl : (loadCells (adr A) xs.length).run P w = .ok (xs.map (Value.int .u8)).toArray w := by
      have := run_loadCells_list (P := P) w (adr A) (xs.map (Value.int .u8)) (fun j v hj => by
        rw [List.getElem?_map] at hj
        obtain ⟨y, hy, rfl⟩ := Option.map_eq_some_iff.1 hj
        obtain ⟨cs, rfl, hc⟩ := hr.el j y hy
        have := hc 0 _ rfl
        have e1 : j * (kInt .u8).sz + 0 = j := Nat.mul_one j
        rwa [e1] at this)
      simpa using this
    rw [hA] at hx
    simp only [execOp, ha.eval hx, Sem.run_bind]
    rw [run_convert_bytes_string w t t2 e _ xs.length c hs he hd, run_bytesToString w _ xs.length c xs hl, foldl_push_bytes]
    simp [strOfNums, ByteArray.empty, ByteArray.emptyWithCapacity]
    rfl
end
end Go.Proofs.YtkpehkadammppaaFx
