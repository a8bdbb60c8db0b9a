/- Entries of a table's rows; cells that are filled row by row. -/
import Derived.Test.YtkpehkadammppaaEnts
set_option linter.unusedVariables false
namespace Go.Proofs.YtkpehkadammppaaFx
open Go Go.RowKit Go.Proofs.Ytkpehkadammppaa.Free
def mEn (row : List Mv) (k : Int) : En := ⟨k, row.getD k.toNat mv0, 0⟩
def gEn (row : List Int) (k : Int) : En := ⟨k, mv0, row.getD k.toNat 0⟩
def mUpto (row : List Mv) (j : Nat) : List En := (pkUpto (keepM row) j).map (mEn row)
def gUpto (row : List Int) (j : Nat) : List En := (pkUpto (keepG row) j).map (gEn row)
def mEnts (row : List Mv) : List En := mUpto row row.length
def gEnts (row : List Int) : List En := gUpto row row.length
theorem mUpto_take {row : List Mv} {j : Nat} (h : keepM row j = true) : mUpto row (j + 1) = mUpto row j ++ [⟨j, row.getD j mv0, 0⟩] := by
  rw [mUpto, pkUpto_take h, List.map_append]; rfl
theorem mUpto_skip {row : List Mv} {j : Nat} (h : keepM row j = false) : mUpto row (j + 1) = mUpto row j := by
  rw [mUpto, pkUpto_skip h]; rfl
theorem gUpto_take {row : List Int} {j : Nat} (h : keepG row j = true) : gUpto row (j + 1) = gUpto row j ++ [⟨j, mv0, row.getD j 0⟩] := by
  rw [gUpto, pkUpto_take h, List.map_append]; rfl
theorem gUpto_skip {row : List Int} {j : Nat} (h : keepG row j = false) : gUpto row (j + 1) = gUpto row j := by
  rw [gUpto, pkUpto_skip h]; rfl
theorem mUpto_len (row : List Mv) (j : Nat) : (mUpto row j).length ≤ j := by rw [mUpto, List.length_map]; exact pkUpto_len _ _
theorem gUpto_len (row : List Int) (j : Nat) : (gUpto row j).length ≤ j := by rw [gUpto, List.length_map]; exact pkUpto_len _ _
theorem mEnts_ats (row : List Mv) : ats (mEnts row) = pkRow row := by
  rw [ats, mEnts, mUpto, List.map_map, show En.at_ ∘ mEn row = id from rfl, List.map_id]; rfl
theorem gEnts_ats (row : List Int) : ats (gEnts row) = goRow row := by
  rw [ats, gEnts, gUpto, List.map_map, show En.at_ ∘ gEn row = id from rfl, List.map_id]; rfl
theorem mEnts_atss (rows : List (List Mv)) : atss (rows.map mEnts) = rows.map pkRow := by
  rw [atss, List.map_map]; congr 1; funext row; exact mEnts_ats row
theorem gEnts_atss (rows : List (List Int)) : atss (rows.map gEnts) = rows.map goRow := by
  rw [atss, List.map_map]; congr 1; funext row; exact gEnts_ats row
theorem mEnts_get {row : List Mv} {k : Nat} (h : k < (mEnts row).length) : (mEnts row).getD k enZ = mEn row ((pkRow row).getD k 0) := by
  unfold mEnts mUpto at *
  rw [List.length_map] at h
  exact getD_map' _ 0 _ h
theorem gEnts_get {row : List Int} {k : Nat} (h : k < (gEnts row).length) : (gEnts row).getD k enZ = gEn row ((goRow row).getD k 0) := by
  unfold gEnts gUpto at *
  rw [List.length_map] at h
  exact getD_map' _ 0 _ h
theorem mEnts_len (row : List Mv) : (mEnts row).length = (pkRow row).length := by rw [← mEnts_ats, List.length_map]
theorem gEnts_len (row : List Int) : (gEnts row).length = (goRow row).length := by rw [← gEnts_ats, List.length_map]
/-! ### what was laid stands where it was laid -/
theorem putsN_has (c row : List Int) (b s : Int) : ∀ n, n ≤ row.length → ∀ q, q < n → (putsN c row b s n).getD (b + row.getD q 0).toNat (-1) = s
  | 0, _, q, h => by omega
  | n + 1, hn, q, h => by
    rw [putsN_succ (by omega), putAt_get]
    split
    · rfl
    · rename_i hne
      refine putsN_has c row b s n (by omega) q ?_
      rcases Nat.lt_or_ge q n with h1 | h1
      · exact h1
      · rw [show q = n by omega] at hne
        exact absurd rfl hne
theorem stN_nonneg {rows : List (List Int)} {ord : List Int} : ∀ i, i ≤ ord.length → ∀ x ∈ (stN rows ord i).1, 0 ≤ x
  | 0, _, x, hx => by rw [(List.mem_replicate.1 hx).2]; exact Int.le_refl _
  | i + 1, hi, x, hx => by
    rw [stN_succ (by omega) rfl] at hx
    rcases List.mem_or_eq_of_mem_set hx with h | h
    · exact stN_nonneg i (by omega) x h
    · omega
theorem freeB_at {c row : List Int} {b k : Int} (h : freeB c row b = true) (hk : k ∈ row) : ¬ (b + k < c.length ∧ 0 ≤ c.getD (b + k).toNat 0) := by
  have := List.all_eq_true.1 h k hk
  simp only [Bool.not_eq_true', Bool.and_eq_false_iff, decide_eq_false_iff_not] at this
  omega
theorem stN_has {rows : List (List Int)} {ord : List Int} (hn : ord.Nodup) (hlt : ∀ x ∈ ord, 0 ≤ x ∧ x < rows.length) (hk : ∀ r ∈ rows, ∀ k ∈ r, 0 ≤ k) : ∀ i, i ≤ ord.length → ∀ s ∈ ord.take i, ∀ x ∈ rows.getD s.toNat [], (stN rows ord i).2.getD ((stN rows ord i).1.getD s.toNat 0 + x).toNat (-1) = s
  | 0, _, s, hs, _, _ => by simp at hs
  | i + 1, hi, s, hs, x, hx => by
    have hS := hlt _ (getD_mem (z := 0) (show i < ord.length by omega))
    have hs0 := hlt s (List.mem_of_mem_take hs)
    have hbl := stN_len rows ord i
    have hrow : ∀ k ∈ rows.getD (ord.getD i 0).toNat [], 0 ≤ k := hk _ (getD_mem (by omega))
    have hnd := nd_take hn (show i < ord.length by omega)
    obtain ⟨_, hfr⟩ := firstFree_spec (c := (stN rows ord i).2) hrow
    rw [stN_succ (by omega) rfl]
    dsimp only
    rw [take_succ' 0 (by omega), List.mem_append, List.mem_singleton] at hs
    rcases hs with hs | rfl
    · have hne : (ord.getD i 0).toNat ≠ s.toNat := fun e => hnd (by rw [show ord.getD i 0 = s by omega]; exact hs)
      have e1 : ((stN rows ord i).1.set (ord.getD i 0).toNat (firstFree (stN rows ord i).2 (rows.getD (ord.getD i 0).toNat []) : Int)).getD s.toNat 0 = (stN rows ord i).1.getD s.toNat 0 := by
        rw [List.getD_eq_getElem?_getD, List.getElem?_set_ne hne, ← List.getD_eq_getElem?_getD]
      have ih := stN_has hn hlt hk i (by omega) s hs x hx
      rw [e1]
      rcases putsN_get (stN rows ord i).2 (rows.getD (ord.getD i 0).toNat []) (firstFree (stN rows ord i).2 (rows.getD (ord.getD i 0).toNat [])) (ord.getD i 0) ((stN rows ord i).1.getD s.toNat 0 + x).toNat _ (Nat.le_refl _) with h | ⟨_, k, hkm, hkj⟩
      · rw [h]; exact ih
      · exfalso
        have hf := freeB_at hfr hkm
        have hk0 := hrow k hkm
        rw [← hkj] at ih
        have hlt2 : ((firstFree (stN rows ord i).2 (rows.getD (ord.getD i 0).toNat []) : Int) + k).toNat < (stN rows ord i).2.length := by
          rcases Nat.lt_or_ge ((firstFree (stN rows ord i).2 (rows.getD (ord.getD i 0).toNat []) : Int) + k).toNat (stN rows ord i).2.length with h | h
          · exact h
          · rw [List.getD_eq_getElem?_getD, List.getElem?_eq_none h] at ih
            change (-1 : Int) = s at ih
            omega
        rw [← getD_irrel' hlt2] at ih
        omega
    · have e1 : ((stN rows ord i).1.set (ord.getD i 0).toNat (firstFree (stN rows ord i).2 (rows.getD (ord.getD i 0).toNat []) : Int)).getD (ord.getD i 0).toNat 0 = (firstFree (stN rows ord i).2 (rows.getD (ord.getD i 0).toNat []) : Int) := by
        rw [List.getD_eq_getElem?_getD, List.getElem?_set_self (by omega)]
        rfl
      rw [e1]
      obtain ⟨q, hq, hqe⟩ := mem_at 0 hx
      rw [← hqe]
      exact putsN_has _ _ _ _ _ (Nat.le_refl _) q hq
theorem iota_has {k : Nat} {x : Int} (h : 0 ≤ x ∧ x < k) : x ∈ iota k := List.mem_map.2 ⟨x.toNat, List.mem_range.2 (by omega), by omega⟩
theorem ordF_has {rows : List (List Int)} {x : Int} (h : 0 ≤ x ∧ x < rows.length) : x ∈ ordF rows := (ordN_perm _ _).mem_iff.2 (iota_has h)
/-- A row's cells, as they were laid. -/
theorem laid_has {rows : List (List Int)} {least : Int} (hk : ∀ r ∈ rows, ∀ k ∈ r, 0 ≤ k) {s : Nat} (hs : s < rows.length) {x : Int} (hx : x ∈ rows.getD s []) :
    0 ≤ (laidF rows (ordF rows) least).1.getD s 0 ∧ (laidF rows (ordF rows) least).2.getD ((laidF rows (ordF rows) least).1.getD s 0 + x).toNat (-1) = s ∧ (laidF rows (ordF rows) least).1.getD s 0 + x < (laidF rows (ordF rows) least).2.length := by
  have hb : 0 ≤ (laidF rows (ordF rows) least).1.getD s 0 := stN_nonneg (ordF rows).length (Nat.le_refl _) _ (getD_mem (by rw [stN_len]; exact hs))
  have hx0 := hk _ (getD_mem hs) x hx
  have h := stN_has (ordF_nd rows) (fun x hx => ordF_mem hx) hk (ordF rows).length (Nat.le_refl _) (s : Int) (by rw [List.take_length]; exact ordF_has (by omega)) x (by rwa [Int.toNat_natCast])
  rw [Int.toNat_natCast] at h
  have h2 : (laidF rows (ordF rows) least).2.getD ((laidF rows (ordF rows) least).1.getD s 0 + x).toNat (-1) = s := by
    show (padTo _ _).getD _ (-1) = _
    rw [padTo_get]
    exact h
  refine ⟨hb, h2, ?_⟩
  rcases (by omega : (laidF rows (ordF rows) least).1.getD s 0 + x < (laidF rows (ordF rows) least).2.length ∨ (laidF rows (ordF rows) least).2.length ≤ ((laidF rows (ordF rows) least).1.getD s 0 + x).toNat) with h3 | h3
  · exact h3
  · rw [List.getD_eq_getElem?_getD, List.getElem?_eq_none h3] at h2
    change (-1 : Int) = s at h2
    omega
theorem cellsUpto_get {α : Type} {z : α} {check base : List Int} {rows : List (List α)} {j : Nat} (h : j < check.length) : (cellsUpto z check base rows check.length).getD j z = if 0 ≤ check.getD j (-1) then (rows.getD (check.getD j (-1)).toNat []).getD ((j : Int) - base.getD (check.getD j (-1)).toNat 0).toNat z else z := by
  unfold cellsUpto
  rw [Nat.sub_self, List.replicate_zero, List.append_nil, List.getD_eq_getElem?_getD, List.getElem?_map, List.getElem?_range h]
  rfl
/-! ### cells filled row by row -/
structure Sc {α : Type} (z : α) (tgt : List α) (base : List Int) (rows : List (List Int)) (s k : Nat) (cells : List α) : Prop where
  len : cells.length = tgt.length
  any : ∀ j, cells.getD j z = tgt.getD j z ∨ cells.getD j z = z
  done_ : ∀ s', s' < s → ∀ x ∈ rows.getD s' [], cells.getD (base.getD s' 0 + x).toNat z = tgt.getD (base.getD s' 0 + x).toNat z
  row : ∀ q, q < k → cells.getD (base.getD s 0 + (rows.getD s []).getD q 0).toNat z = tgt.getD (base.getD s 0 + (rows.getD s []).getD q 0).toNat z
section
variable {α : Type} {z : α} {tgt cells : List α} {base : List Int} {rows : List (List Int)} {s k : Nat}
theorem Sc.start {n : Nat} (h : n = tgt.length) : Sc z tgt base rows 0 0 (List.replicate n z) :=
  ⟨by rw [List.length_replicate, h], fun j => .inr (by rw [List.getD_eq_getElem?_getD, List.getElem?_replicate]; split <;> rfl), fun s' h => by omega, fun q h => by omega⟩
theorem set_getD {xs : List α} {i j : Nat} {v : α} (h : i < xs.length) : (xs.set i v).getD j z = if i = j then v else xs.getD j z := by
  rw [List.getD_eq_getElem?_getD, List.getElem?_set]
  split
  · rfl
  · rw [List.getD_eq_getElem?_getD]
theorem Sc.put (h : Sc z tgt base rows s k cells) {v : α} (hj : (base.getD s 0 + (rows.getD s []).getD k 0).toNat < tgt.length) (hv : v = tgt.getD (base.getD s 0 + (rows.getD s []).getD k 0).toNat z) :
    Sc z tgt base rows s (k + 1) (cells.set (base.getD s 0 + (rows.getD s []).getD k 0).toNat v) := by
  have hl := h.len
  refine ⟨by rw [List.length_set]; exact hl, fun j => ?_, fun s' h1 x hx => ?_, fun q hq => ?_⟩
  · rw [set_getD (by omega)]
    split
    · rename_i e; subst e; exact .inl hv
    · exact h.any j
  · rw [set_getD (by omega)]
    split
    · rename_i e; rw [← e]; exact hv
    · exact h.done_ s' h1 x hx
  · rw [set_getD (by omega)]
    split
    · rename_i e; rw [← e]; exact hv
    · rename_i e
      refine h.row q ?_
      rcases Nat.lt_or_ge q k with h1 | h1
      · exact h1
      · rw [show q = k by omega] at e
        exact absurd rfl e
theorem Sc.next (h : Sc z tgt base rows s k cells) (hk : (rows.getD s []).length ≤ k) : Sc z tgt base rows (s + 1) 0 cells :=
  ⟨h.len, h.any, fun s' h1 x hx => by
    rcases Nat.lt_or_eq_of_le (Nat.le_of_lt_succ h1) with h2 | rfl
    · exact h.done_ s' h2 x hx
    · obtain ⟨q, hq, rfl⟩ := mem_at 0 hx
      exact h.row q (by omega), fun q hq => by omega⟩
theorem Sc.done (h : Sc z tgt base rows s k cells) (ht : ∀ j, j < tgt.length → tgt.getD j z = z ∨ ∃ s', s' < s ∧ ∃ x ∈ rows.getD s' [], (base.getD s' 0 + x).toNat = j) : cells = tgt :=
  ext_getD z h.len fun j => by
    rcases Nat.lt_or_ge j tgt.length with hj | hj
    · rcases ht j hj with h1 | ⟨s', h1, x, hx, rfl⟩
      · rcases h.any j with h2 | h2
        · exact h2
        · rw [h2, h1]
      · exact h.done_ s' h1 x hx
    · have hl := h.len
      rw [List.getD_eq_getElem?_getD, List.getD_eq_getElem?_getD, List.getElem?_eq_none hj, List.getElem?_eq_none (by omega)]
end
/-- All the cells are filled. -/
theorem sc_done {α : Type} {z : α} {src : List (List α)} {rows : List (List Int)} {least : Int} {s k : Nat} {cells : List α} (hk : ∀ r ∈ rows, ∀ k ∈ r, 0 ≤ k) (hs : s = rows.length)
    (h : Sc z (cellsUpto z (laidF rows (ordF rows) least).2 (laidF rows (ordF rows) least).1 src (laidF rows (ordF rows) least).2.length) (laidF rows (ordF rows) least).1 rows s k cells) :
    cells = cellsUpto z (laidF rows (ordF rows) least).2 (laidF rows (ordF rows) least).1 src (laidF rows (ordF rows) least).2.length := by
  refine h.done fun j hj => ?_
  rw [cellsUpto_len (Nat.le_refl _)] at hj
  rw [cellsUpto_get hj]
  split
  · rename_i hc
    obtain ⟨h1, x, hx, he⟩ := laid_at (ordF_nd rows) (fun x hx => ordF_mem hx) hk hc
    exact .inr ⟨_, by omega, x, hx, by omega⟩
  · exact .inl rfl
/-- A cell's value, where a row's entry is put. -/
theorem sc_val {α : Type} {z : α} {src : List (List α)} {rows : List (List Int)} {least : Int} {s : Nat} {x : Int} (hk : ∀ r ∈ rows, ∀ k ∈ r, 0 ≤ k) (hs : s < rows.length) (hx : x ∈ rows.getD s []) :
    (cellsUpto z (laidF rows (ordF rows) least).2 (laidF rows (ordF rows) least).1 src (laidF rows (ordF rows) least).2.length).getD ((laidF rows (ordF rows) least).1.getD s 0 + x).toNat z = (src.getD s []).getD x.toNat z := by
  obtain ⟨h1, h2, h3⟩ := laid_has (least := least) hk hs hx
  have hx0 := hk _ (getD_mem hs) x hx
  rw [cellsUpto_get (by omega), h2, if_pos (by omega), Int.toNat_natCast]
  congr 1
  omega
theorem ent_mv {t : List (List Mv)} {s q : Nat} (hs : s < t.length) (hq : q < ((t.map mEnts).getD s []).length) : (((t.map mEnts).getD s []).getD q enZ).mv = (t.getD s []).getD (((t.map mEnts).getD s []).getD q enZ).at_.toNat mv0 := by
  rw [getD_map' mEnts [] [] hs] at hq ⊢
  rw [mEnts_get hq]
  rfl
theorem ent_to {t : List (List Int)} {s q : Nat} (hs : s < t.length) (hq : q < ((t.map gEnts).getD s []).length) : (((t.map gEnts).getD s []).getD q enZ).to = (t.getD s []).getD (((t.map gEnts).getD s []).getD q enZ).at_.toNat 0 := by
  rw [getD_map' gEnts [] [] hs] at hq ⊢
  rw [gEnts_get hq]
  rfl
theorem atss_at (X : List (List En)) (s q : Nat) : ((atss X).getD s []).getD q 0 = ((X.getD s []).getD q enZ).at_ := by rw [atss_get, ats_get]
theorem atss_len (X : List (List En)) (s : Nat) : ((atss X).getD s []).length = (X.getD s []).length := by rw [atss_get, List.length_map]
theorem Rd.atNoff {α : Type} {f : Fk α} {w : World} {A : Option Addr} {xs : List α} {i : Nat} (h : Rd f.kn w A xs) (z : α) (h1 : i < xs.length) {off : Nat} {cs : List Value} (hcut : ((f.enc (xs.getD i z)).drop off).take cs.length = cs) : ∀ j u, cs[j]? = some u → w.cell? ((((adr A).add ((i : Int).toNat * f.sz)).add off).add j) = some u := fun j u hu => by
  rw [add_add]
  exact h.atN z h1 (cut_eq hcut j u hu)
/-- Where an entry is put, and what. -/
theorem put_at {X : List (List En)} {least : Int} {s q : Nat} (hk : ∀ r ∈ atss X, ∀ k ∈ r, 0 ≤ k) (hs : s < X.length) (hq : q < (X.getD s []).length) :
    ((X.getD s []).getD q enZ).at_ ∈ (atss X).getD s [] ∧ 0 ≤ ((X.getD s []).getD q enZ).at_ ∧ 0 ≤ (laidF (atss X) (ordF (atss X)) least).1.getD s 0 ∧ (laidF (atss X) (ordF (atss X)) least).1.getD s 0 + ((X.getD s []).getD q enZ).at_ < (laidF (atss X) (ordF (atss X)) least).2.length := by
  have hl : s < (atss X).length := by rw [List.length_map]; exact hs
  have hm : ((X.getD s []).getD q enZ).at_ ∈ (atss X).getD s [] := by rw [← atss_at]; exact getD_mem (by rw [atss_len]; exact hq)
  obtain ⟨h1, h2, h3⟩ := laid_has (least := least) hk hl hm
  exact ⟨hm, hk _ (getD_mem hl) _ hm, h1, h3⟩
theorem atss_ok {X : List (List En)} {N : Nat} (h : ∀ x ∈ atss X, (∀ y ∈ x, 0 ≤ y ∧ y < N) ∧ x.length ≤ N) : ∀ r ∈ X, r.length ≤ N := fun r hr => by
  have := (h (ats r) (List.mem_map.2 ⟨r, hr, rfl⟩)).2
  rwa [List.length_map] at this
end Go.Proofs.YtkpehkadammppaaFx
