/- Entries of rows; the document's laying is the program's. -/
import Derived.Test.YtkpehkadammppaaOrdF
import Derived.Test.YtkpehkadammppaaCut
set_option linter.unusedVariables false
namespace Go.Proofs.YtkpehkadammppaaFx
open Go Go.RowKit Go.Proofs.Ytkpehkadammppaa.Free
/-- What stands in a row: its place, and its value. -/
structure En where
  at_ : Int
  mv : Mv
  to : Int
def fEn : Fk En := ⟨4, fun x => [.int .i64 x.at_, .int .i64 x.mv.d, .int .i64 x.mv.n, .int .i64 x.to], fun _ => rfl, fun x u hu => by
  simp only [List.mem_cons, List.not_mem_nil, or_false] at hu
  rcases hu with rfl | rfl | rfl | rfl <;> rfl⟩
def enZ : En := ⟨0, mv0, 0⟩
abbrev ats (row : List En) : List Int := row.map En.at_
abbrev atss (rows : List (List En)) : List (List Int) := rows.map ats
theorem atss_get (rows : List (List En)) (i : Nat) : (atss rows).getD i [] = ats (rows.getD i []) := by
  rw [List.getD_eq_getElem?_getD, List.getD_eq_getElem?_getD, List.getElem?_map]
  cases rows[i]? <;> rfl
theorem ats_get (row : List En) (i : Nat) : (ats row).getD i 0 = (row.getD i enZ).at_ := by
  rw [List.getD_eq_getElem?_getD, List.getD_eq_getElem?_getD, List.getElem?_map]
  cases row[i]? <;> rfl
theorem lnR_ats (rows : List (List En)) (x : Int) : lnR (atss rows) x = (rows.getD x.toNat []).length := by
  rw [lnR, atss_get, List.length_map]
theorem insO_at {ln : Int → Nat} {s : Int} : ∀ (out : List Int) (i : Nat), i ≤ out.length → (∀ q, q < i → ln s ≤ ln (out.getD q 0)) → (i = out.length ∨ ¬ ln s ≤ ln (out.getD i 0)) → insO ln s out = out.take i ++ [s] ++ out.drop i
  | [], i, h, _, _ => by simp at h; subst h; rfl
  | x :: r, 0, _, _, h => by
    have hn : ¬ ln s ≤ ln x := h.resolve_left (by simp)
    unfold insO
    rw [if_neg hn]
    rfl
  | x :: r, i + 1, h1, h2, h3 => by
    have hx : ln s ≤ ln x := h2 0 (by omega)
    unfold insO
    rw [if_pos hx, insO_at r i (by simpa using h1) (fun q hq => h2 (q + 1) (by omega)) (h3.imp (by simp) (fun h => h))]
    simp
theorem ordN_len (ln : Int → Nat) (k : Nat) : (ordN ln k).length = k := by rw [(ordN_perm ln k).length_eq, iota_len]
theorem ordN_mem {ln : Int → Nat} {k : Nat} {x : Int} (h : x ∈ ordN ln k) : 0 ≤ x ∧ x < k := iota_mem ((ordN_perm ln k).mem_iff.1 h)
theorem ext_getD {α : Type} {xs ys : List α} (z : α) (hl : xs.length = ys.length) (h : ∀ j, xs.getD j z = ys.getD j z) : xs = ys := by
  apply List.ext_getElem hl
  intro j h1 h2
  have := h j
  rw [List.getD_eq_getElem?_getD, List.getD_eq_getElem?_getD, List.getElem?_eq_getElem h1, List.getElem?_eq_getElem h2] at this
  exact this
theorem putAt_pad (c : List Int) (a s : Int) (n : Nat) : putAt (padTo c n) a s = padTo (putAt c a s) n :=
  ext_getD (-1) (by simp only [putAt_len, padTo_len]; omega) fun j => by rw [putAt_get, padTo_get, padTo_get, putAt_get]
theorem putsN_pad (c row : List Int) (b s : Int) (n : Nat) : ∀ j, j ≤ row.length → putsN (padTo c n) row b s j = padTo (putsN c row b s j) n
  | 0, _ => rfl
  | j + 1, h => by rw [putsN_succ (by omega), putsN_succ (by omega), putsN_pad c row b s n j (by omega), putAt_pad]
theorem getD_irrel' {c : List Int} {j : Nat} (h : j < c.length) : c.getD j 0 = c.getD j (-1) := getD_irrel h _ _
theorem freeB_pad {c row : List Int} {b : Int} (n : Nat) (hb : 0 ≤ b) (hk : ∀ k ∈ row, 0 ≤ k) : freeB (padTo c n) row b = freeB c row b := by
  unfold freeB
  have hall : ∀ r : List Int, (∀ k ∈ r, 0 ≤ k) → (r.all fun k => !(decide (b + k < (padTo c n).length) && decide (0 ≤ (padTo c n).getD (b + k).toNat 0))) = r.all fun k => !(decide (b + k < c.length) && decide (0 ≤ c.getD (b + k).toNat 0)) := by
    intro r
    induction r with
    | nil => exact fun _ => rfl
    | cons k r ih =>
      intro hk
      rw [List.all_cons, List.all_cons, ih fun x hx => hk x (List.mem_cons_of_mem _ hx)]
      congr 2
      have hk0 := hk k (List.mem_cons_self ..)
      have hl := padTo_len c n
      rcases (by omega : b + k < c.length ∨ ¬ b + k < c.length) with h | h
      · have e1 : (padTo c n).getD (b + k).toNat 0 = c.getD (b + k).toNat 0 := by rw [getD_irrel' (by omega), padTo_get, ← getD_irrel' (by omega)]
        rw [e1, decide_eq_true h, decide_eq_true (show b + k < (padTo c n).length by omega)]
      · rw [decide_eq_false h, Bool.false_and]
        rcases (by omega : b + k < (padTo c n).length ∨ ¬ b + k < (padTo c n).length) with h2 | h2
        · have e1 : (padTo c n).getD (b + k).toNat 0 = -1 := by rw [getD_irrel' (by omega), padTo_get, List.getD_eq_getElem?_getD, List.getElem?_eq_none (by omega)]; rfl
          rw [e1, show decide ((0 : Int) ≤ -1) = false by decide, Bool.and_false]
        · rw [decide_eq_false h2, Bool.false_and]
  exact hall row hk
theorem firstFree_spec {c row : List Int} (hk : ∀ k ∈ row, 0 ≤ k) : (∀ b', b' < firstFree c row → freeB c row (b' : Int) = false) ∧ freeB c row (firstFree c row : Int) = true := by
  unfold firstFree
  cases h : (List.range (c.length + 1)).find? fun (b : Nat) => freeB c row (b : Int) with
  | none =>
    have := List.find?_eq_none.1 h c.length (by simp)
    exact absurd (freeB_end (Int.le_refl _) hk) this
  | some b =>
    have h2 := List.find?_range_eq_some.1 h
    exact ⟨fun b' hb => by have := h2.2.2 b' hb; simpa using this, h2.1⟩
theorem firstFree_pad {c row : List Int} (n : Nat) (hk : ∀ k ∈ row, 0 ≤ k) : firstFree (padTo c n) row = firstFree c row := by
  obtain ⟨h1, h2⟩ := firstFree_spec (c := c) hk
  refine firstFree_is (fun b' hb => by rw [freeB_pad n (by omega) hk]; exact h1 b' hb) (by rw [freeB_pad n (by omega) hk]; exact h2) ?_
  have := firstFree_le c row
  rw [padTo_len]
  omega
def stepR (rows : List (List Int)) (st : LS) (s : Int) : LS := if (rows.getD s.toNat []).length = 0 then st else stepF rows st s
def stR (rows : List (List Int)) (ord : List Int) (least : Int) (i : Nat) : LS := (ord.take i).foldl (stepR rows) (List.replicate rows.length 0, List.replicate least.toNat (-1))
theorem stR_skip {rows : List (List Int)} {ord : List Int} {least : Int} {i : Nat} (h : i < ord.length) (h0 : (rows.getD (ord.getD i 0).toNat []).length = 0) : stR rows ord least (i + 1) = stR rows ord least i := by
  unfold stR
  rw [take_succ' 0 h, List.foldl_append]
  show stepR rows _ _ = _
  rw [stepR, if_pos h0]
theorem stR_succ {rows : List (List Int)} {ord : List Int} {least : Int} {i b : Nat} (h : i < ord.length) (h0 : ¬ (rows.getD (ord.getD i 0).toNat []).length = 0) (hb : firstFree (stR rows ord least i).2 (rows.getD (ord.getD i 0).toNat []) = b) :
    stR rows ord least (i + 1) = ((stR rows ord least i).1.set (ord.getD i 0).toNat b, putsN (stR rows ord least i).2 (rows.getD (ord.getD i 0).toNat []) b (ord.getD i 0) (rows.getD (ord.getD i 0).toNat []).length) := by
  have e : stR rows ord least (i + 1) = stepR rows (stR rows ord least i) (ord.getD i 0) := by
    unfold stR
    rw [take_succ' 0 h, List.foldl_append]
    rfl
  rw [e, stepR, if_neg h0, stepF, hb]
theorem stN_base0 {rows : List (List Int)} {ord : List Int} (hn : ord.Nodup) (hlt : ∀ x ∈ ord, 0 ≤ x ∧ x < rows.length) : ∀ i, i ≤ ord.length → ∀ x : Int, 0 ≤ x → x ∉ ord.take i → (stN rows ord i).1.getD x.toNat 0 = 0
  | 0, _, x, _, _ => by
    show (List.replicate rows.length (0 : Int)).getD _ 0 = 0
    rw [List.getD_eq_getElem?_getD, List.getElem?_replicate]
    split <;> rfl
  | i + 1, hi, x, hx, hm => by
    rw [take_succ' 0 (by omega), List.mem_append, List.mem_singleton] at hm
    have hS := hlt _ (getD_mem (z := 0) (show i < ord.length by omega))
    have ih := stN_base0 hn hlt i (by omega) x hx (fun h => hm (.inl h))
    rw [stN_succ (by omega) rfl]
    dsimp only
    rw [List.getD_eq_getElem?_getD, List.getElem?_set_ne (fun e => hm (.inr (by omega))), ← List.getD_eq_getElem?_getD]
    exact ih
theorem set_same {xs : List Int} {i : Nat} {a : Int} (h : xs.getD i 0 = a) : xs.set i a = xs := by
  refine ext_getD 0 List.length_set fun j => ?_
  rw [List.getD_eq_getElem?_getD, List.getElem?_set]
  by_cases hj : i = j
  · subst hj
    rw [if_pos rfl]
    split
    · exact h.symm
    · rename_i hl
      rw [List.getD_eq_getElem?_getD, List.getElem?_eq_none (by omega)]
  · rw [if_neg hj, List.getD_eq_getElem?_getD]
theorem stR_is {rows : List (List Int)} {ord : List Int} (least : Int) (hn : ord.Nodup) (hlt : ∀ x ∈ ord, 0 ≤ x ∧ x < rows.length) (hk : ∀ r ∈ rows, ∀ k ∈ r, 0 ≤ k) : ∀ i, i ≤ ord.length → stR rows ord least i = ((stN rows ord i).1, padTo (stN rows ord i).2 least.toNat)
  | 0, _ => by
    show (List.replicate rows.length (0 : Int), List.replicate least.toNat (-1 : Int)) = (List.replicate rows.length 0, padTo [] least.toNat)
    simp [padTo]
  | i + 1, hi => by
    have ih := stR_is least hn hlt hk i (by omega)
    have hS := hlt _ (getD_mem (z := 0) (show i < ord.length by omega))
    have hk0 : ∀ k ∈ rows.getD (ord.getD i 0).toNat [], 0 ≤ k := hk _ (getD_mem (by omega))
    rcases Nat.eq_zero_or_pos (rows.getD (ord.getD i 0).toNat []).length with h0 | h0
    · rw [stR_skip (by omega) h0, ih, stN_succ (b := 0) (by omega) (by rw [List.eq_nil_of_length_eq_zero h0]; exact firstFree_is (fun b' hb => by omega) rfl (Nat.zero_le _))]
      rw [List.eq_nil_of_length_eq_zero h0]
      show (_, _) = (List.set _ _ _, padTo (stN rows ord i).2 _)
      rw [set_same]
      exact stN_base0 hn hlt i (by omega) _ hS.1 (nd_take hn (by omega))
    · rw [stR_succ (by omega) (by omega) rfl, stN_succ (by omega) rfl, ih]
      dsimp only
      rw [firstFree_pad _ hk0, putsN_pad _ _ _ _ _ _ (Nat.le_refl _)]
theorem stR_laid {rows : List (List Int)} {ord : List Int} (least : Int) (hn : ord.Nodup) (hlt : ∀ x ∈ ord, 0 ≤ x ∧ x < rows.length) (hk : ∀ r ∈ rows, ∀ k ∈ r, 0 ≤ k) : stR rows ord least ord.length = laidF rows ord least := stR_is least hn hlt hk _ (Nat.le_refl _)
/-- The document's laying of entries. -/
def stE (rows : List (List En)) (least : Int) (i : Nat) : LS := stR (atss rows) (ordF (atss rows)) least i
theorem ordF_nd (rows : List (List Int)) : (ordF rows).Nodup := (ordN_pw (lnR rows) rows.length).imp fun {a b} h e => by
  subst e
  unfold Lt' at h
  omega
theorem ordF_mem {rows : List (List Int)} {x : Int} (h : x ∈ ordF rows) : 0 ≤ x ∧ x < rows.length := iota_mem ((ordN_perm _ _).mem_iff.1 h)
theorem ordE_len (rows : List (List En)) : (ordF (atss rows)).length = rows.length := by rw [ordF_len, List.length_map]
theorem ordE_mem {rows : List (List En)} {x : Int} (h : x ∈ ordF (atss rows)) : 0 ≤ x ∧ x < rows.length := by
  have := ordF_mem h
  rwa [List.length_map] at this
theorem stE_zero (rows : List (List En)) (least : Int) : stE rows least 0 = (List.replicate rows.length 0, List.replicate least.toNat (-1)) := by
  show (List.replicate (atss rows).length (0 : Int), _) = _
  rw [List.length_map]
theorem stE_skip {rows : List (List En)} {least : Int} {i : Nat} (h : i < (ordF (atss rows)).length) (h0 : (rows.getD ((ordF (atss rows)).getD i 0).toNat []).length = 0) : stE rows least (i + 1) = stE rows least i :=
  stR_skip h (by rw [atss_get, List.length_map]; exact h0)
theorem stE_succ {rows : List (List En)} {least : Int} {i b : Nat} (h : i < (ordF (atss rows)).length) (h0 : ¬ (rows.getD ((ordF (atss rows)).getD i 0).toNat []).length = 0) (hb : firstFree (stE rows least i).2 (ats (rows.getD ((ordF (atss rows)).getD i 0).toNat [])) = b) :
    stE rows least (i + 1) = ((stE rows least i).1.set ((ordF (atss rows)).getD i 0).toNat b, putsN (stE rows least i).2 (ats (rows.getD ((ordF (atss rows)).getD i 0).toNat [])) b ((ordF (atss rows)).getD i 0) (rows.getD ((ordF (atss rows)).getD i 0).toNat []).length) := by
  have := stR_succ (b := b) (rows := atss rows) (least := least) h (by rw [atss_get, List.length_map]; exact h0) (by rw [atss_get]; exact hb)
  rw [atss_get, List.length_map] at this
  exact this
theorem stE_is {rows : List (List En)} {least : Int} {i : Nat} (hk : ∀ r ∈ atss rows, ∀ k ∈ r, 0 ≤ k) (hi : i ≤ rows.length) : stE rows least i = ((stN (atss rows) (ordF (atss rows)) i).1, padTo (stN (atss rows) (ordF (atss rows)) i).2 least.toNat) :=
  stR_is least (ordF_nd _) (fun x hx => ordF_mem hx) hk i (by rw [ordE_len]; exact hi)
theorem stE_len {rows : List (List En)} {least : Int} {i M : Nat} (hM : ∀ r ∈ atss rows, ∀ k ∈ r, 0 ≤ k ∧ k < M) (hi : i ≤ rows.length) : (stE rows least i).1.length = rows.length ∧ (stE rows least i).2.length ≤ max (i * M) least.toNat := by
  rw [stE_is (fun r hr k hk => (hM r hr k hk).1) hi]
  dsimp only
  have h1 := stN_len (atss rows) (ordF (atss rows)) i
  have h2 := stN_chk (fun x hx => ordF_mem hx) hM i (by rw [ordE_len]; exact hi)
  rw [List.length_map] at h1
  rw [padTo_len]
  omega
theorem stE_laid {rows : List (List En)} {least : Int} (hk : ∀ r ∈ atss rows, ∀ k ∈ r, 0 ≤ k) : stE rows least rows.length = laidF (atss rows) (ordF (atss rows)) least := by
  have := stR_laid (rows := atss rows) least (ordF_nd _) (fun x hx => ordF_mem hx) hk
  rwa [ordE_len] at this
theorem ats_mem {rows : List (List En)} {i : Nat} (h : i < rows.length) : ats (rows.getD i []) ∈ atss rows := List.mem_map.2 ⟨_, getD_mem h, rfl⟩
end Go.Proofs.YtkpehkadammppaaFx
