/- Tables packed: plain definitions. -/
import Derived.Test.YtkpehkadammppaaLaid
import Derived.Test.YtkpehkadammppaaPk
set_option linter.unusedVariables false
namespace Go.Proofs.YtkpehkadammppaaFx
open Go Go.RowKit Go.Proofs.Ytkpehkadammppaa.Free
def keepM (row : List Mv) (k : Nat) : Bool := !decide (row.getD k mv0 = usualF row) && !decide ((row.getD k mv0).d = 0)
def keepG (row : List Int) (k : Nat) : Bool := decide (0 ≤ row.getD k 0)
def pkUpto (p : Nat → Bool) (j : Nat) : List Int := ((List.range j).filter p).map fun (k : Nat) => (k : Int)
theorem pkUpto_take {p : Nat → Bool} {j : Nat} (h : p j = true) : pkUpto p (j + 1) = pkUpto p j ++ [(j : Int)] := by
  simp [pkUpto, List.range_succ, h]
theorem pkUpto_skip {p : Nat → Bool} {j : Nat} (h : p j = false) : pkUpto p (j + 1) = pkUpto p j := by
  simp [pkUpto, List.range_succ, h]
theorem pkUpto_len (p : Nat → Bool) (j : Nat) : (pkUpto p j).length ≤ j := by
  unfold pkUpto
  rw [List.length_map]
  exact Nat.le_trans (List.length_filter_le _ _) (by simp)
theorem pkUpto_mem {p : Nat → Bool} {j : Nat} {k : Int} (h : k ∈ pkUpto p j) : 0 ≤ k ∧ k < j ∧ p k.toNat = true := by
  unfold pkUpto at h
  obtain ⟨a, ha, rfl⟩ := List.mem_map.1 h
  obtain ⟨h1, h2⟩ := List.mem_filter.1 ha
  rw [List.mem_range] at h1
  exact ⟨by omega, by omega, by simpa using h2⟩
def pkRow (row : List Mv) : List Int := pkUpto (keepM row) row.length
def goRow (row : List Int) : List Int := pkUpto (keepG row) row.length
/-- The order in which rows are laid, and that sort.SliceStable finds it. -/
structure SortOk (P : Program) (rows : List (List Int)) (ord : List Int) : Prop where
  len : ord.length = rows.length
  nd : ord.Nodup
  lt : ∀ x ∈ ord, 0 ≤ x ∧ x < rows.length
  run : ∀ (w W : World) (A A15 : Option Addr) (ca b2 b6 : Nat), Rd (kInt .i64).sl w A rows → Holds w [Row (fInt .i64) 3 (.slice A15 rows.length rows.length) (iota rows.length), Blk b6 39 [.slice A15 rows.length rows.length], Blk b2 23 [.slice A rows.length ca]] W →
      Calls P 56 #[.iface 39 (.slice A15 rows.length rows.length), .func (.func 57) #[] #[.pointer (some ⟨b2, 0, none⟩), .pointer (some ⟨b6, 0, none⟩)]] W fun e w' => ∃ v, e = .returned v ∧ v = .tuple #[] ∧ Holds w [Row (fInt .i64) 3 (.slice A15 rows.length rows.length) ord, Blk b6 39 [.slice A15 rows.length rows.length], Blk b2 23 [.slice A rows.length ca]] w'
theorem padTo_get (c : List Int) (n j : Nat) : (padTo c n).getD j (-1) = c.getD j (-1) := by
  unfold padTo
  rw [List.getD_eq_getElem?_getD, List.getD_eq_getElem?_getD]
  rcases Nat.lt_or_ge j c.length with h | h
  · rw [List.getElem?_append_left h]
  · rw [List.getElem?_append_right h, List.getElem?_eq_none h, List.getElem?_replicate]
    split <;> rfl
theorem putAt_get (c : List Int) (a s : Int) (j : Nat) : (putAt c a s).getD j (-1) = if j = a.toNat then s else c.getD j (-1) := by
  unfold putAt
  rw [List.getD_eq_getElem?_getD, List.getElem?_set]
  by_cases h : a.toNat = j
  · rw [if_pos h, if_pos h.symm, if_pos (by rw [padTo_len]; omega)]
    rfl
  · rw [if_neg h, if_neg (fun e => h e.symm), ← List.getD_eq_getElem?_getD, padTo_get]
theorem putsN_get (c row : List Int) (b s : Int) (j : Nat) : ∀ n, n ≤ row.length → (putsN c row b s n).getD j (-1) = c.getD j (-1) ∨ ((putsN c row b s n).getD j (-1) = s ∧ ∃ k ∈ row, (b + k).toNat = j)
  | 0, _ => .inl rfl
  | n + 1, h => by
    rw [putsN_succ (by omega), putAt_get]
    by_cases hj : j = (b + row.getD n 0).toNat
    · rw [if_pos hj]
      exact .inr ⟨rfl, row.getD n 0, getD_mem (by omega), hj.symm⟩
    · rw [if_neg hj]
      exact putsN_get c row b s j n (by omega)
theorem nd_take {ord : List Int} {i : Nat} (hn : ord.Nodup) (h : i < ord.length) : ord.getD i 0 ∉ ord.take i := by
  have h1 : (ord.take (i + 1)).Nodup := hn.sublist (List.take_sublist _ _)
  rw [take_succ' 0 h, List.nodup_append] at h1
  exact fun hm => h1.2.2 _ hm _ (List.mem_singleton.2 rfl) rfl
/-- Where a cell is taken, it is by a row that was laid there. -/
theorem laid_inv {rows : List (List Int)} {ord : List Int} (hn : ord.Nodup) (hlt : ∀ x ∈ ord, 0 ≤ x ∧ x < rows.length) (hk : ∀ r ∈ rows, ∀ k ∈ r, 0 ≤ k) : ∀ i, i ≤ ord.length → ∀ j, 0 ≤ (stN rows ord i).2.getD j (-1) →
    (stN rows ord i).2.getD j (-1) ∈ ord.take i ∧ ∃ k ∈ rows.getD ((stN rows ord i).2.getD j (-1)).toNat [], (stN rows ord i).1.getD ((stN rows ord i).2.getD j (-1)).toNat 0 + k = j
  | 0, _, j, h => by simp [stN] at h
  | i + 1, hi, j, h => by
    have hS := hlt _ (getD_mem (z := 0) (show i < ord.length by omega))
    have hbl := stN_len rows ord i
    rw [stN_succ (by omega) rfl] at h ⊢
    rw [take_succ' 0 (by omega)]
    dsimp only at h ⊢
    rcases putsN_get (stN rows ord i).2 (rows.getD (ord.getD i 0).toNat []) (firstFree (stN rows ord i).2 (rows.getD (ord.getD i 0).toNat [])) (ord.getD i 0) j _ (Nat.le_refl _) with h1 | ⟨h1, k, hkm, hkj⟩
    · rw [h1] at h ⊢
      obtain ⟨h2, h3⟩ := laid_inv hn hlt hk i (by omega) j h
      refine ⟨List.mem_append_left _ h2, ?_⟩
      have hne : (ord.getD i 0).toNat ≠ ((stN rows ord i).2.getD j (-1)).toNat := fun e => nd_take (i := i) hn (by omega) (by
        have : ord.getD i 0 = (stN rows ord i).2.getD j (-1) := by omega
        rw [this]
        exact h2)
      rw [List.getD_eq_getElem?_getD (l := List.set _ _ _), List.getElem?_set_ne hne, ← List.getD_eq_getElem?_getD]
      exact h3
    · rw [h1]
      refine ⟨List.mem_append_right _ (List.mem_singleton.2 rfl), k, hkm, ?_⟩
      have hk0 := hk _ (getD_mem (z := []) (show (ord.getD i 0).toNat < rows.length by omega)) k hkm
      rw [List.getD_eq_getElem?_getD (l := List.set _ _ _), List.getElem?_set_self (by omega)]
      show (firstFree (stN rows ord i).2 (rows.getD (ord.getD i 0).toNat []) : Int) + k = j
      omega
theorem laid_at {rows : List (List Int)} {ord : List Int} {least : Int} (hn : ord.Nodup) (hlt : ∀ x ∈ ord, 0 ≤ x ∧ x < rows.length) (hk : ∀ r ∈ rows, ∀ k ∈ r, 0 ≤ k) {j : Nat} (h : 0 ≤ (laidF rows ord least).2.getD j (-1)) :
    (laidF rows ord least).2.getD j (-1) < rows.length ∧ ∃ k ∈ rows.getD ((laidF rows ord least).2.getD j (-1)).toNat [], (laidF rows ord least).1.getD ((laidF rows ord least).2.getD j (-1)).toNat 0 + k = j := by
  unfold laidF at *
  dsimp only at h ⊢
  rw [padTo_get] at h ⊢
  obtain ⟨h1, h2⟩ := laid_inv hn hlt hk _ (Nat.le_refl _) j h
  exact ⟨(hlt _ (List.mem_of_mem_take h1)).2, h2⟩
theorem putsN_len {c row : List Int} {b M : Nat} {s : Int} (hM : ∀ k ∈ row, 0 ≤ k ∧ k < M) (hb : b ≤ c.length) : ∀ j, j ≤ row.length → (putsN c row b s j).length ≤ c.length + M
  | 0, _ => Nat.le_add_right _ _
  | j + 1, h => by
    have h1 := putsN_len (s := s) hM hb j (by omega)
    have h2 := hM _ (getD_mem (z := 0) (show j < row.length by omega))
    rw [putsN_succ (by omega), putAt_len]
    omega
theorem stN_chk {rows : List (List Int)} {ord : List Int} {M : Nat} (hlt : ∀ x ∈ ord, 0 ≤ x ∧ x < rows.length) (hM : ∀ r ∈ rows, ∀ k ∈ r, 0 ≤ k ∧ k < M) : ∀ i, i ≤ ord.length → (stN rows ord i).2.length ≤ i * M
  | 0, _ => Nat.zero_le _
  | i + 1, h => by
    have h1 := stN_chk hlt hM i (by omega)
    have hS := hlt _ (getD_mem (z := 0) (show i < ord.length by omega))
    rw [stN_succ (by omega) rfl]
    dsimp only
    have h2 := putsN_len (s := ord.getD i 0) (hM _ (getD_mem (z := []) (show (ord.getD i 0).toNat < rows.length by omega))) (firstFree_le (stN rows ord i).2 (rows.getD (ord.getD i 0).toNat [])) _ (Nat.le_refl _)
    rw [Nat.succ_mul]
    omega
theorem laidF_len {rows : List (List Int)} {ord : List Int} {M : Nat} {least : Int} (hlt : ∀ x ∈ ord, 0 ≤ x ∧ x < rows.length) (hol : ord.length = rows.length) (hM : ∀ r ∈ rows, ∀ k ∈ r, 0 ≤ k ∧ k < M) : (laidF rows ord least).2.length ≤ max (rows.length * M) least.toNat := by
  have h := stN_chk hlt hM _ (Nat.le_refl _)
  rw [hol] at h
  show (padTo (stN rows ord ord.length).2 least.toNat).length ≤ _
  rw [padTo_len, hol]
  omega
/-- A packed row's cells. -/
def cellsUpto {α : Type} (z : α) (check base : List Int) (rows : List (List α)) (j : Nat) : List α := ((List.range j).map fun i => if 0 ≤ check.getD i (-1) then (rows.getD (check.getD i (-1)).toNat []).getD ((i : Int) - base.getD (check.getD i (-1)).toNat 0).toNat z else z) ++ List.replicate (check.length - j) z
theorem cellsUpto_len {α : Type} {z : α} {check base : List Int} {rows : List (List α)} {j : Nat} (h : j ≤ check.length) : (cellsUpto z check base rows j).length = check.length := by
  simp only [cellsUpto, List.length_append, List.length_map, List.length_range, List.length_replicate]; omega
theorem cellsUpto_next {α : Type} {z : α} {check base : List Int} {rows : List (List α)} {j : Nat} (h : j < check.length) : cellsUpto z check base rows (j + 1) = (cellsUpto z check base rows j).set j (if 0 ≤ check.getD j (-1) then (rows.getD (check.getD j (-1)).toNat []).getD ((j : Int) - base.getD (check.getD j (-1)).toNat 0).toNat z else z) := by
  unfold cellsUpto
  rw [List.set_append_right _ _ (by simp), List.length_map, List.length_range, Nat.sub_self, show check.length - j = (check.length - (j + 1)) + 1 by omega, List.replicate_succ, List.set_cons_zero, List.range_succ, List.map_append, List.append_assoc]
  rfl
theorem cellsUpto_skip {α : Type} {z : α} {check base : List Int} {rows : List (List α)} {j : Nat} (h : j < check.length) (hn : ¬ 0 ≤ check.getD j (-1)) : cellsUpto z check base rows (j + 1) = cellsUpto z check base rows j := by
  unfold cellsUpto
  rw [show check.length - j = (check.length - (j + 1)) + 1 by omega, List.replicate_succ, List.range_succ, List.map_append, List.append_assoc]
  congr 1
  simp only [List.map_cons, List.map_nil, if_neg hn]
  rfl
/-- The packed table. -/
def packF (t : Tb) (k r : Int) (om og : List Int) : Pk :=
  let a := laidF (t.mv.map pkRow) om k
  let g := laidF (t.go.map goRow) og r
  ⟨k, r, t.mv.map usualF, a.1, a.2, cellsUpto mv0 a.2 a.1 t.mv a.2.length, g.1, g.2, cellsUpto 0 g.2 g.1 t.go g.2.length⟩
def pk0 : Pk := ⟨0, 0, [], [], [], [], [], [], []⟩
/-- A packed table of the call's own. -/
def OwnP (a : PkA) (p : Pk) : List Ch := [Row fMv 48 (.slice a.d p.dflt.length a.kd) p.dflt, Row (fInt .i64) 3 (.slice a.b p.base.length a.kb) p.base, Row (fInt .i64) 3 (.slice a.c p.check.length a.kc) p.check, Row fMv 48 (.slice a.e p.cell.length a.ke) p.cell, Row (fInt .i64) 3 (.slice a.gb p.gbase.length a.kgb) p.gbase, Row (fInt .i64) 3 (.slice a.gc p.gcheck.length a.kgc) p.gcheck, Row (fInt .i64) 3 (.slice a.ge p.gcell.length a.kge) p.gcell]
noncomputable def pkAns (t : Tb) (k r p : Int) (om og : List Int) : Pk := if checkF t k r p = 0 then packF t k r om og else pk0
theorem checkF_zero {t : Tb} {k r p : Int} (h : checkF t k r p = 0) : ¬ (k < 2 ∨ r < 0 ∨ p < 0) ∧ TGood t k r p := by
  unfold checkF at h
  split at h
  · omega
  · rename_i h1
    split at h
    · rename_i h2
      exact ⟨of_ndec (by simpa using h1), of_dec h2⟩
    · omega
theorem getD_irrel {α : Type} {xs : List α} {i : Nat} (h : i < xs.length) (a b : α) : xs.getD i a = xs.getD i b := by
  rw [List.getD_eq_getElem?_getD, List.getD_eq_getElem?_getD, List.getElem?_eq_getElem h]
  rfl
theorem getD_map' {α β : Type} {xs : List α} {i : Nat} (g : α → β) (z : α) (z' : β) (h : i < xs.length) : (xs.map g).getD i z' = g (xs.getD i z) := by
  rw [List.getD_eq_getElem?_getD, List.getD_eq_getElem?_getD, List.getElem?_map, List.getElem?_eq_getElem h]
  rfl
theorem mem_at {α : Type} {xs : List α} {x : α} (z : α) (h : x ∈ xs) : ∃ j, j < xs.length ∧ xs.getD j z = x := by
  obtain ⟨j, hj, he⟩ := List.mem_iff_getElem.1 h
  exact ⟨j, hj, by rw [List.getD_eq_getElem?_getD, List.getElem?_eq_getElem hj]; exact he⟩
theorem pm_ok {t : Tb} {k r p : Int} (h : TGood t k r p) : ∀ x ∈ t.mv.map pkRow, (∀ y ∈ x, 0 ≤ y ∧ y < k.toNat) ∧ x.length ≤ k.toNat := fun x hx => by
  obtain ⟨row, hr, rfl⟩ := List.mem_map.1 hx
  obtain ⟨j, hj, rfl⟩ := mem_at [] hr
  have := (h.2.2.2 j hj).1
  exact ⟨fun y hy => by have := pkUpto_mem hy; omega, by have := pkUpto_len (keepM (t.mv.getD j [])) (t.mv.getD j []).length; unfold pkRow; omega⟩
theorem gm_ok {t : Tb} {k r p : Int} (h : TGood t k r p) : ∀ x ∈ t.go.map goRow, (∀ y ∈ x, 0 ≤ y ∧ y < r.toNat) ∧ x.length ≤ r.toNat := fun x hx => by
  obtain ⟨row, hr, rfl⟩ := List.mem_map.1 hx
  obtain ⟨j, hj, rfl⟩ := mem_at [] hr
  have := (h.2.2.2 j (by have := h.2.2.1; omega)).2.1
  exact ⟨fun y hy => by have := pkUpto_mem hy; omega, by have := pkUpto_len (keepG (t.go.getD j [])) (t.go.getD j []).length; unfold goRow; omega⟩
theorem cellsUpto_zero {α : Type} (z : α) (check base : List Int) (rows : List (List α)) : cellsUpto z check base rows 0 = List.replicate check.length z := rfl
theorem Holds.rrR {α : Type} {f : Fk α} {W0 w : World} {L : List Ch} {e e2 n c : Nat} {A : Option Addr} {xss : List (List α)} (H : Holds W0 L w) (U : Upd L (RR f e e2 (.slice A n c) xss) (RR f e e2 (.slice A n c) xss) L) : Rd f.kn.sl w A xss := by
  obtain ⟨A', c', h, _, _, _, hr⟩ := H.rr U
  injection h with h1 h2 h3
  subst h1
  exact hr
/-- Where a taken cell's row and column are. -/
theorem laid_cell {rows : List (List Int)} {ord : List Int} {least : Int} {α : Type} {src : List (List α)} {p : List α → Nat → Bool} {P : Program} (so : SortOk P rows ord) (hr : rows = src.map fun x => pkUpto (p x) x.length) {j : Nat} (hj : j < (laidF rows ord least).2.length) (h : 0 ≤ (laidF rows ord least).2.getD j 0) :
    (laidF rows ord least).2.getD j 0 < src.length ∧ 0 ≤ (j : Int) - (laidF rows ord least).1.getD ((laidF rows ord least).2.getD j 0).toNat 0 ∧ (j : Int) - (laidF rows ord least).1.getD ((laidF rows ord least).2.getD j 0).toNat 0 < (src.getD ((laidF rows ord least).2.getD j 0).toNat []).length := by
  rw [getD_irrel hj 0 (-1)] at h ⊢
  obtain ⟨h1, k, hk, hb⟩ := laid_at so.nd so.lt (fun x hx y hy => by
    subst hr
    obtain ⟨row, _, rfl⟩ := List.mem_map.1 hx
    exact (pkUpto_mem hy).1) h
  have hl : rows.length = src.length := by rw [hr, List.length_map]
  have hlt : ((laidF rows ord least).2.getD j (-1)).toNat < src.length := by omega
  have e : rows.getD ((laidF rows ord least).2.getD j (-1)).toNat [] = pkUpto (p (src.getD ((laidF rows ord least).2.getD j (-1)).toNat [])) (src.getD ((laidF rows ord least).2.getD j (-1)).toNat []).length := by
    generalize ((laidF rows ord least).2.getD j (-1)).toNat = q at hlt ⊢
    rw [hr, getD_map' _ [] [] hlt]
  rw [e] at hk
  have := pkUpto_mem hk
  omega
theorem laidF_len1 (rows : List (List Int)) (ord : List Int) (least : Int) : (laidF rows ord least).1.length = rows.length := stN_len rows ord ord.length
end Go.Proofs.YtkpehkadammppaaFx
