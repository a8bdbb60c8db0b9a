/- Entries of a table's rows; cells that are filled row by row. Numbers of a table with its defaults. What is packed and unpacked is the table with its defaults: plain. Tables compared; tables whose rows are as long as the first. The law on what comes back. What came in, as it reads. What came in, its rows' lengths together. -/
import Derived.Test.YtkpehkadammppaaK04
import Derived.Test.YtkpehkadammppaaK08
import Derived.Test.YtkpehkadammppaaProg
import Derived.Test.YtkpehkadammppaaK02
import Derived.Test.YtkpehkadammppaaK05
import Derived.Test.YtkpehkadammppaaK06
import Derived.Test.YtkpehkadammppaaK09
import Derived.Test.YtkpehkadammppaaK11
import Derived.Test.YtkpehkadammppaaK12
import Derived.Test.YtkpehkadammppaaK10
import Derived.Test.YtkpehkadammppaaRows
import Derived.WalkKit
import Derived.ProofKit
import Derived.OpenShut
import Derived.JoinedCond
import Derived.Deep.Slices
import Derived.Deep.Strs
import Derived.Lib.SmallJoins
import Derived.Carry
import Derived.WideShapes
set_option linter.unusedVariables false
set_option linter.unusedSimpArgs false
/-! Entries of a table's rows; cells that are filled row by row. -/
namespace Go.Proofs.YtkpehkadammppaaFx
open Go Go.RowKit Go.Proofs.Ytkpehkadammppaa.Free
def mEn (row : List Mv) (k : Int) : En := ⟨k, row.getD k.toNat mv0, 0⟩
def gEn (row : List Int) (k : Int) : En := ⟨k, mv0, row.getD k.toNat 0⟩
def mUpto (row : List Mv) (j : Nat) : List En := (pkUpto (keepM row) j).map (mEn row)
def gUpto (row : List Int) (j : Nat) : List En := (pkUpto (keepG row) j).map (gEn row)
def mEnts (row : List Mv) : List En := mUpto row row.length
def gEnts (row : List Int) : List En := gUpto row row.length
theorem mUpto_take {row : List Mv} {j : Nat} (h : keepM row j = true) : mUpto row (j + 1) = mUpto row j ++ [⟨j, row.getD j mv0, 0⟩] := by
  rw [mUpto, pkUpto_take h, List.map_append]; rfl
theorem mUpto_skip {row : List Mv} {j : Nat} (h : keepM row j = false) : mUpto row (j + 1) = mUpto row j := by
  rw [mUpto, pkUpto_skip h]; rfl
theorem gUpto_take {row : List Int} {j : Nat} (h : keepG row j = true) : gUpto row (j + 1) = gUpto row j ++ [⟨j, mv0, row.getD j 0⟩] := by
  rw [gUpto, pkUpto_take h, List.map_append]; rfl
theorem gUpto_skip {row : List Int} {j : Nat} (h : keepG row j = false) : gUpto row (j + 1) = gUpto row j := by
  rw [gUpto, pkUpto_skip h]; rfl
theorem mUpto_len (row : List Mv) (j : Nat) : (mUpto row j).length ≤ j := by rw [mUpto, List.length_map]; exact pkUpto_len _ _
theorem gUpto_len (row : List Int) (j : Nat) : (gUpto row j).length ≤ j := by rw [gUpto, List.length_map]; exact pkUpto_len _ _
theorem mEnts_ats (row : List Mv) : ats (mEnts row) = pkRow row := by
  rw [ats, mEnts, mUpto, List.map_map, show En.at_ ∘ mEn row = id from rfl, List.map_id]; rfl
theorem gEnts_ats (row : List Int) : ats (gEnts row) = goRow row := by
  rw [ats, gEnts, gUpto, List.map_map, show En.at_ ∘ gEn row = id from rfl, List.map_id]; rfl
theorem mEnts_atss (rows : List (List Mv)) : atss (rows.map mEnts) = rows.map pkRow := by
  rw [atss, List.map_map]; congr 1; funext row; exact mEnts_ats row
theorem gEnts_atss (rows : List (List Int)) : atss (rows.map gEnts) = rows.map goRow := by
  rw [atss, List.map_map]; congr 1; funext row; exact gEnts_ats row
theorem mEnts_get {row : List Mv} {k : Nat} (h : k < (mEnts row).length) : (mEnts row).getD k enZ = mEn row ((pkRow row).getD k 0) := by
  unfold mEnts mUpto at *
  rw [List.length_map] at h
  exact getD_map' _ 0 _ h
theorem gEnts_get {row : List Int} {k : Nat} (h : k < (gEnts row).length) : (gEnts row).getD k enZ = gEn row ((goRow row).getD k 0) := by
  unfold gEnts gUpto at *
  rw [List.length_map] at h
  exact getD_map' _ 0 _ h
theorem mEnts_len (row : List Mv) : (mEnts row).length = (pkRow row).length := by rw [← mEnts_ats, List.length_map]
theorem gEnts_len (row : List Int) : (gEnts row).length = (goRow row).length := by rw [← gEnts_ats, List.length_map]
/-! ### what was laid stands where it was laid -/
theorem putsN_has (c row : List Int) (b s : Int) : ∀ n, n ≤ row.length → ∀ q, q < n → (putsN c row b s n).getD (b + row.getD q 0).toNat (-1) = s
  | 0, _, q, h => by omega
  | n + 1, hn, q, h => by
    rw [putsN_succ (by omega), putAt_get]
    split
    · rfl
    · rename_i hne
      refine putsN_has c row b s n (by omega) q ?_
      rcases Nat.lt_or_ge q n with h1 | h1
      · exact h1
      · rw [show q = n by omega] at hne
        exact absurd rfl hne
theorem stN_nonneg {rows : List (List Int)} {ord : List Int} : ∀ i, i ≤ ord.length → ∀ x ∈ (stN rows ord i).1, 0 ≤ x
  | 0, _, x, hx => by rw [(List.mem_replicate.1 hx).2]; exact Int.le_refl _
  | i + 1, hi, x, hx => by
    rw [stN_succ (by omega) rfl] at hx
    rcases List.mem_or_eq_of_mem_set hx with h | h
    · exact stN_nonneg i (by omega) x h
    · omega
theorem freeB_at {c row : List Int} {b k : Int} (h : freeB c row b = true) (hk : k ∈ row) : ¬ (b + k < c.length ∧ 0 ≤ c.getD (b + k).toNat 0) := by
  have := List.all_eq_true.1 h k hk
  simp only [Bool.not_eq_true', Bool.and_eq_false_iff, decide_eq_false_iff_not] at this
  omega
theorem stN_has {rows : List (List Int)} {ord : List Int} (hn : ord.Nodup) (hlt : ∀ x ∈ ord, 0 ≤ x ∧ x < rows.length) (hk : ∀ r ∈ rows, ∀ k ∈ r, 0 ≤ k) : ∀ i, i ≤ ord.length → ∀ s ∈ ord.take i, ∀ x ∈ rows.getD s.toNat [], (stN rows ord i).2.getD ((stN rows ord i).1.getD s.toNat 0 + x).toNat (-1) = s
  | 0, _, s, hs, _, _ => by simp at hs
  | i + 1, hi, s, hs, x, hx => by
    have hS := hlt _ (getD_mem (z := 0) (show i < ord.length by omega))
    have hs0 := hlt s (List.mem_of_mem_take hs)
    have hbl := stN_len rows ord i
    have hrow : ∀ k ∈ rows.getD (ord.getD i 0).toNat [], 0 ≤ k := hk _ (getD_mem (by omega))
    have hnd := nd_take hn (show i < ord.length by omega)
    obtain ⟨_, hfr⟩ := firstFree_spec (c := (stN rows ord i).2) hrow
    rw [stN_succ (by omega) rfl]
    dsimp only
    rw [take_succ' 0 (by omega), List.mem_append, List.mem_singleton] at hs
    rcases hs with hs | rfl
    · have hne : (ord.getD i 0).toNat ≠ s.toNat := fun e => hnd (by rw [show ord.getD i 0 = s by omega]; exact hs)
      have e1 : ((stN rows ord i).1.set (ord.getD i 0).toNat (firstFree (stN rows ord i).2 (rows.getD (ord.getD i 0).toNat []) : Int)).getD s.toNat 0 = (stN rows ord i).1.getD s.toNat 0 := by
        rw [List.getD_eq_getElem?_getD, List.getElem?_set_ne hne, ← List.getD_eq_getElem?_getD]
      have ih := stN_has hn hlt hk i (by omega) s hs x hx
      rw [e1]
      rcases putsN_get (stN rows ord i).2 (rows.getD (ord.getD i 0).toNat []) (firstFree (stN rows ord i).2 (rows.getD (ord.getD i 0).toNat [])) (ord.getD i 0) ((stN rows ord i).1.getD s.toNat 0 + x).toNat _ (Nat.le_refl _) with h | ⟨_, k, hkm, hkj⟩
      · rw [h]; exact ih
      · exfalso
        have hf := freeB_at hfr hkm
        have hk0 := hrow k hkm
        rw [← hkj] at ih
        have hlt2 : ((firstFree (stN rows ord i).2 (rows.getD (ord.getD i 0).toNat []) : Int) + k).toNat < (stN rows ord i).2.length := by
          rcases Nat.lt_or_ge ((firstFree (stN rows ord i).2 (rows.getD (ord.getD i 0).toNat []) : Int) + k).toNat (stN rows ord i).2.length with h | h
          · exact h
          · rw [List.getD_eq_getElem?_getD, List.getElem?_eq_none h] at ih
            change (-1 : Int) = s at ih
            omega
        rw [← getD_irrel' hlt2] at ih
        omega
    · have e1 : ((stN rows ord i).1.set (ord.getD i 0).toNat (firstFree (stN rows ord i).2 (rows.getD (ord.getD i 0).toNat []) : Int)).getD (ord.getD i 0).toNat 0 = (firstFree (stN rows ord i).2 (rows.getD (ord.getD i 0).toNat []) : Int) := by
        rw [List.getD_eq_getElem?_getD, List.getElem?_set_self (by omega)]
        rfl
      rw [e1]
      obtain ⟨q, hq, hqe⟩ := mem_at 0 hx
      rw [← hqe]
      exact putsN_has _ _ _ _ _ (Nat.le_refl _) q hq
theorem iota_has {k : Nat} {x : Int} (h : 0 ≤ x ∧ x < k) : x ∈ iota k := List.mem_map.2 ⟨x.toNat, List.mem_range.2 (by omega), by omega⟩
theorem ordF_has {rows : List (List Int)} {x : Int} (h : 0 ≤ x ∧ x < rows.length) : x ∈ ordF rows := (ordN_perm _ _).mem_iff.2 (iota_has h)
/-- A row's cells, as they were laid. -/
theorem laid_has {rows : List (List Int)} {least : Int} (hk : ∀ r ∈ rows, ∀ k ∈ r, 0 ≤ k) {s : Nat} (hs : s < rows.length) {x : Int} (hx : x ∈ rows.getD s []) :
    0 ≤ (laidF rows (ordF rows) least).1.getD s 0 ∧ (laidF rows (ordF rows) least).2.getD ((laidF rows (ordF rows) least).1.getD s 0 + x).toNat (-1) = s ∧ (laidF rows (ordF rows) least).1.getD s 0 + x < (laidF rows (ordF rows) least).2.length := by
  have hb : 0 ≤ (laidF rows (ordF rows) least).1.getD s 0 := stN_nonneg (ordF rows).length (Nat.le_refl _) _ (getD_mem (by rw [stN_len]; exact hs))
  have hx0 := hk _ (getD_mem hs) x hx
  have h := stN_has (ordF_nd rows) (fun x hx => ordF_mem hx) hk (ordF rows).length (Nat.le_refl _) (s : Int) (by rw [List.take_length]; exact ordF_has (by omega)) x (by rwa [Int.toNat_natCast])
  rw [Int.toNat_natCast] at h
  have h2 : (laidF rows (ordF rows) least).2.getD ((laidF rows (ordF rows) least).1.getD s 0 + x).toNat (-1) = s := by
    show (padTo _ _).getD _ (-1) = _
    rw [padTo_get]
    exact h
  refine ⟨hb, h2, ?_⟩
  rcases (by omega : (laidF rows (ordF rows) least).1.getD s 0 + x < (laidF rows (ordF rows) least).2.length ∨ (laidF rows (ordF rows) least).2.length ≤ ((laidF rows (ordF rows) least).1.getD s 0 + x).toNat) with h3 | h3
  · exact h3
  · rw [List.getD_eq_getElem?_getD, List.getElem?_eq_none h3] at h2
    change (-1 : Int) = s at h2
    omega
theorem cellsUpto_get {α : Type} {z : α} {check base : List Int} {rows : List (List α)} {j : Nat} (h : j < check.length) : (cellsUpto z check base rows check.length).getD j z = if 0 ≤ check.getD j (-1) then (rows.getD (check.getD j (-1)).toNat []).getD ((j : Int) - base.getD (check.getD j (-1)).toNat 0).toNat z else z := by
  unfold cellsUpto
  rw [Nat.sub_self, List.replicate_zero, List.append_nil, List.getD_eq_getElem?_getD, List.getElem?_map, List.getElem?_range h]
  rfl
/-! ### cells filled row by row -/
structure Sc {α : Type} (z : α) (tgt : List α) (base : List Int) (rows : List (List Int)) (s k : Nat) (cells : List α) : Prop where
  len : cells.length = tgt.length
  any : ∀ j, cells.getD j z = tgt.getD j z ∨ cells.getD j z = z
  done_ : ∀ s', s' < s → ∀ x ∈ rows.getD s' [], cells.getD (base.getD s' 0 + x).toNat z = tgt.getD (base.getD s' 0 + x).toNat z
  row : ∀ q, q < k → cells.getD (base.getD s 0 + (rows.getD s []).getD q 0).toNat z = tgt.getD (base.getD s 0 + (rows.getD s []).getD q 0).toNat z
section
variable {α : Type} {z : α} {tgt cells : List α} {base : List Int} {rows : List (List Int)} {s k : Nat}
theorem Sc.start {n : Nat} (h : n = tgt.length) : Sc z tgt base rows 0 0 (List.replicate n z) :=
  ⟨by rw [List.length_replicate, h], fun j => .inr (by rw [List.getD_eq_getElem?_getD, List.getElem?_replicate]; split <;> rfl), fun s' h => by omega, fun q h => by omega⟩
theorem set_getD {xs : List α} {i j : Nat} {v : α} (h : i < xs.length) : (xs.set i v).getD j z = if i = j then v else xs.getD j z := by
  rw [List.getD_eq_getElem?_getD, List.getElem?_set]
  split
  · rfl
  · rw [List.getD_eq_getElem?_getD]
theorem Sc.put (h : Sc z tgt base rows s k cells) {v : α} (hj : (base.getD s 0 + (rows.getD s []).getD k 0).toNat < tgt.length) (hv : v = tgt.getD (base.getD s 0 + (rows.getD s []).getD k 0).toNat z) :
    Sc z tgt base rows s (k + 1) (cells.set (base.getD s 0 + (rows.getD s []).getD k 0).toNat v) := by
  have hl := h.len
  refine ⟨by rw [List.length_set]; exact hl, fun j => ?_, fun s' h1 x hx => ?_, fun q hq => ?_⟩
  · rw [set_getD (by omega)]
    split
    · rename_i e; subst e; exact .inl hv
    · exact h.any j
  · rw [set_getD (by omega)]
    split
    · rename_i e; rw [← e]; exact hv
    · exact h.done_ s' h1 x hx
  · rw [set_getD (by omega)]
    split
    · rename_i e; rw [← e]; exact hv
    · rename_i e
      refine h.row q ?_
      rcases Nat.lt_or_ge q k with h1 | h1
      · exact h1
      · rw [show q = k by omega] at e
        exact absurd rfl e
theorem Sc.next (h : Sc z tgt base rows s k cells) (hk : (rows.getD s []).length ≤ k) : Sc z tgt base rows (s + 1) 0 cells :=
  ⟨h.len, h.any, fun s' h1 x hx => by
    rcases Nat.lt_or_eq_of_le (Nat.le_of_lt_succ h1) with h2 | rfl
    · exact h.done_ s' h2 x hx
    · obtain ⟨q, hq, rfl⟩ := mem_at 0 hx
      exact h.row q (by omega), fun q hq => by omega⟩
theorem Sc.done (h : Sc z tgt base rows s k cells) (ht : ∀ j, j < tgt.length → tgt.getD j z = z ∨ ∃ s', s' < s ∧ ∃ x ∈ rows.getD s' [], (base.getD s' 0 + x).toNat = j) : cells = tgt :=
  ext_getD z h.len fun j => by
    rcases Nat.lt_or_ge j tgt.length with hj | hj
    · rcases ht j hj with h1 | ⟨s', h1, x, hx, rfl⟩
      · rcases h.any j with h2 | h2
        · exact h2
        · rw [h2, h1]
      · exact h.done_ s' h1 x hx
    · have hl := h.len
      rw [List.getD_eq_getElem?_getD, List.getD_eq_getElem?_getD, List.getElem?_eq_none hj, List.getElem?_eq_none (by omega)]
end
/-- All the cells are filled. -/
theorem sc_done {α : Type} {z : α} {src : List (List α)} {rows : List (List Int)} {least : Int} {s k : Nat} {cells : List α} (hk : ∀ r ∈ rows, ∀ k ∈ r, 0 ≤ k) (hs : s = rows.length)
    (h : Sc z (cellsUpto z (laidF rows (ordF rows) least).2 (laidF rows (ordF rows) least).1 src (laidF rows (ordF rows) least).2.length) (laidF rows (ordF rows) least).1 rows s k cells) :
    cells = cellsUpto z (laidF rows (ordF rows) least).2 (laidF rows (ordF rows) least).1 src (laidF rows (ordF rows) least).2.length := by
  refine h.done fun j hj => ?_
  rw [cellsUpto_len (Nat.le_refl _)] at hj
  rw [cellsUpto_get hj]
  split
  · rename_i hc
    obtain ⟨h1, x, hx, he⟩ := laid_at (ordF_nd rows) (fun x hx => ordF_mem hx) hk hc
    exact .inr ⟨_, by omega, x, hx, by omega⟩
  · exact .inl rfl
/-- A cell's value, where a row's entry is put. -/
theorem sc_val {α : Type} {z : α} {src : List (List α)} {rows : List (List Int)} {least : Int} {s : Nat} {x : Int} (hk : ∀ r ∈ rows, ∀ k ∈ r, 0 ≤ k) (hs : s < rows.length) (hx : x ∈ rows.getD s []) :
    (cellsUpto z (laidF rows (ordF rows) least).2 (laidF rows (ordF rows) least).1 src (laidF rows (ordF rows) least).2.length).getD ((laidF rows (ordF rows) least).1.getD s 0 + x).toNat z = (src.getD s []).getD x.toNat z := by
  obtain ⟨h1, h2, h3⟩ := laid_has (least := least) hk hs hx
  have hx0 := hk _ (getD_mem hs) x hx
  rw [cellsUpto_get (by omega), h2, if_pos (by omega), Int.toNat_natCast]
  congr 1
  omega
theorem ent_mv {t : List (List Mv)} {s q : Nat} (hs : s < t.length) (hq : q < ((t.map mEnts).getD s []).length) : (((t.map mEnts).getD s []).getD q enZ).mv = (t.getD s []).getD (((t.map mEnts).getD s []).getD q enZ).at_.toNat mv0 := by
  rw [getD_map' mEnts [] [] hs] at hq ⊢
  rw [mEnts_get hq]
  rfl
theorem ent_to {t : List (List Int)} {s q : Nat} (hs : s < t.length) (hq : q < ((t.map gEnts).getD s []).length) : (((t.map gEnts).getD s []).getD q enZ).to = (t.getD s []).getD (((t.map gEnts).getD s []).getD q enZ).at_.toNat 0 := by
  rw [getD_map' gEnts [] [] hs] at hq ⊢
  rw [gEnts_get hq]
  rfl
theorem atss_at (X : List (List En)) (s q : Nat) : ((atss X).getD s []).getD q 0 = ((X.getD s []).getD q enZ).at_ := by rw [atss_get, ats_get]
theorem atss_len (X : List (List En)) (s : Nat) : ((atss X).getD s []).length = (X.getD s []).length := by rw [atss_get, List.length_map]
theorem Rd.atNoff {α : Type} {f : Fk α} {w : World} {A : Option Addr} {xs : List α} {i : Nat} (h : Rd f.kn w A xs) (z : α) (h1 : i < xs.length) {off : Nat} {cs : List Value} (hcut : ((f.enc (xs.getD i z)).drop off).take cs.length = cs) : ∀ j u, cs[j]? = some u → w.cell? ((((adr A).add ((i : Int).toNat * f.sz)).add off).add j) = some u := fun j u hu => by
  rw [add_add]
  exact h.atN z h1 (cut_eq hcut j u hu)
/-- Where an entry is put, and what. -/
theorem put_at {X : List (List En)} {least : Int} {s q : Nat} (hk : ∀ r ∈ atss X, ∀ k ∈ r, 0 ≤ k) (hs : s < X.length) (hq : q < (X.getD s []).length) :
    ((X.getD s []).getD q enZ).at_ ∈ (atss X).getD s [] ∧ 0 ≤ ((X.getD s []).getD q enZ).at_ ∧ 0 ≤ (laidF (atss X) (ordF (atss X)) least).1.getD s 0 ∧ (laidF (atss X) (ordF (atss X)) least).1.getD s 0 + ((X.getD s []).getD q enZ).at_ < (laidF (atss X) (ordF (atss X)) least).2.length := by
  have hl : s < (atss X).length := by rw [List.length_map]; exact hs
  have hm : ((X.getD s []).getD q enZ).at_ ∈ (atss X).getD s [] := by rw [← atss_at]; exact getD_mem (by rw [atss_len]; exact hq)
  obtain ⟨h1, h2, h3⟩ := laid_has (least := least) hk hl hm
  exact ⟨hm, hk _ (getD_mem hl) _ hm, h1, h3⟩
theorem atss_ok {X : List (List En)} {N : Nat} (h : ∀ x ∈ atss X, (∀ y ∈ x, 0 ≤ y ∧ y < N) ∧ x.length ≤ N) : ∀ r ∈ X, r.length ≤ N := fun r hr => by
  have := (h (ats r) (List.mem_map.2 ⟨r, hr, rfl⟩)).2
  rwa [List.length_map] at this
end Go.Proofs.YtkpehkadammppaaFx

/-! Numbers of a table with its defaults. -/
namespace Go.Proofs.YtkpehkadammppaaFx
open Go Go.RowKit
theorem usualF_i64 {row : List Mv} (h : ∀ m ∈ row, I64 m.d ∧ I64 m.n) : I64 (usualF row).d ∧ I64 (usualF row).n := by
  rcases usualF_is row with ⟨e, _⟩ | ⟨x, e, hx, _⟩
  · rw [e]; unfold I64 mv0; decide
  · rw [e]
    obtain ⟨m, hm, _, rfl⟩ := cnt_mem hx
    exact ⟨show I64 2 by unfold I64; decide, (h m hm).2⟩
theorem dfT_ok {t : Tb} (h : t.ok) : (dfT t).ok := by
  refine ⟨by simpa [dfT] using h.m, h.g, fun r hr => ?_, h.gr⟩
  obtain ⟨row, hrow, rfl⟩ := List.mem_map.1 (show r ∈ t.mv.map dfRow from hr)
  refine ⟨by simpa [dfRow] using (h.mr row hrow).1, fun m hm => ?_⟩
  obtain ⟨m', hm', rfl⟩ := List.mem_map.1 (show m ∈ row.map (dfm row) from hm)
  unfold dfm
  split
  · exact usualF_i64 (h.mr row hrow).2
  · exact (h.mr row hrow).2 m' hm'
theorem dfAns_ok {t : Tb} (h : t.ok) : (dfAns t).ok := by
  unfold dfAns
  split
  · exact dfT_ok h
  · exact ⟨by decide, by decide, fun r hr => by simp at hr, fun r hr => by simp at hr⟩
end Go.Proofs.YtkpehkadammppaaFx

/-! What is packed and unpacked is the table with its defaults: plain. -/
namespace Go.Proofs.YtkpehkadammppaaFx
open Go Go.RowKit Go.Proofs.Ytkpehkadammppaa.Free
theorem stN_base_le {rows : List (List Int)} {ord : List Int} {M : Nat} (hlt : ∀ x ∈ ord, 0 ≤ x ∧ x < rows.length) (hM : ∀ r ∈ rows, ∀ k ∈ r, 0 ≤ k ∧ k < M) : ∀ i, i ≤ ord.length → ∀ x ∈ (stN rows ord i).1, x ≤ (i * M : Nat)
  | 0, _, x, hx => by rw [(List.mem_replicate.1 hx).2]; omega
  | i + 1, hi, x, hx => by
    rw [stN_succ (by omega) rfl] at hx
    have h1 := stN_chk hlt hM i (by omega)
    have h2 := firstFree_le (stN rows ord i).2 (rows.getD (ord.getD i 0).toNat [])
    rw [Nat.succ_mul]
    rcases List.mem_or_eq_of_mem_set hx with h | h
    · have := stN_base_le hlt hM i (by omega) x h
      omega
    · omega
theorem pkUpto_has {p : Nat → Bool} {n j : Nat} (hj : j < n) (h : p j = true) : (j : Int) ∈ pkUpto p n :=
  List.mem_map.2 ⟨j, List.mem_filter.2 ⟨List.mem_range.2 hj, h⟩, rfl⟩
section
variable {α : Type} {z : α} {src : List (List α)} {rows : List (List Int)} {least : Int} {s j : Nat}
theorem cell_yes (hk : ∀ r ∈ rows, ∀ k ∈ r, 0 ≤ k) (hs : s < rows.length) (h : (j : Int) ∈ rows.getD s []) :
    cellF (laidF rows (ordF rows) least).1 (laidF rows (ordF rows) least).2 (laidF rows (ordF rows) least).2.length s j = (laidF rows (ordF rows) least).1.getD s 0 + j ∧
      (cellsUpto z (laidF rows (ordF rows) least).2 (laidF rows (ordF rows) least).1 src (laidF rows (ordF rows) least).2.length).getD ((laidF rows (ordF rows) least).1.getD s 0 + j).toNat z = (src.getD s []).getD j z ∧ 0 ≤ (laidF rows (ordF rows) least).1.getD s 0 := by
  obtain ⟨h1, h2, h3⟩ := laid_has (least := least) hk hs h
  have hl := laidF_len1 rows (ordF rows) least
  refine ⟨?_, ?_, h1⟩
  · rw [cellF_yes ⟨by omega, by rw [Int.toNat_natCast]; omega, by rw [Int.toNat_natCast]; omega, by rw [Int.toNat_natCast]; omega, by rw [Int.toNat_natCast, getD_irrel (by omega) 0 (-1), h2]⟩, Int.toNat_natCast]
  · have := sc_val (z := z) (src := src) (least := least) hk hs h
    rwa [Int.toNat_natCast] at this
theorem cell_no (hk : ∀ r ∈ rows, ∀ k ∈ r, 0 ≤ k) (h : (j : Int) ∉ rows.getD s []) :
    cellF (laidF rows (ordF rows) least).1 (laidF rows (ordF rows) least).2 (laidF rows (ordF rows) least).2.length s j = -1 := by
  refine cellF_no fun ⟨h1, h2, h3, h4, h5⟩ => h ?_
  rw [Int.toNat_natCast] at h2 h3 h5
  have hj : ((laidF rows (ordF rows) least).1.getD s 0 + j).toNat < (laidF rows (ordF rows) least).2.length := by omega
  rw [getD_irrel hj 0 (-1)] at h5
  obtain ⟨h6, x, hx, he⟩ := laid_at (least := least) (ordF_nd rows) (fun x hx => ordF_mem hx) hk (j := ((laidF rows (ordF rows) least).1.getD s 0 + j).toNat) (by rw [h5]; omega)
  rw [h5, Int.toNat_natCast] at hx he
  rw [show (j : Int) = x by omega]
  exact hx
end
/-- What is packed and unpacked. -/
theorem back {t : Tb} {k r p : Int} (hk2 : 2 ≤ k) (hr0 : 0 ≤ r) (hg : TGood t k r p) (hk : k ≤ 1024) (hr : r ≤ 2048) :
    UpOk (packF t k r (ordF (t.mv.map pkRow)) (ordF (t.go.map goRow))) ∧ upAns (packF t k r (ordF (t.mv.map pkRow)) (ordF (t.go.map goRow))) = dfT t ∧ Rect t := by
  have hpm := pm_ok hg
  have hgm := gm_ok hg
  obtain ⟨g1, g2, g3, g4⟩ := hg
  have hR : Rect t := ⟨by omega, by have := (g4 0 (by omega)).1; omega, g3, fun s hs => by
    have h1 := g4 s hs
    have h2 := g4 0 (by omega)
    have := h1.1
    have := h2.1
    have := h1.2.1
    have := h2.2.1
    omega⟩
  have hu : UpOk (packF t k r (ordF (t.mv.map pkRow)) (ordF (t.go.map goRow))) := by
    have e1 : (packF t k r (ordF (t.mv.map pkRow)) (ordF (t.go.map goRow))).dflt.length = t.mv.length := List.length_map ..
    have e2 : (packF t k r (ordF (t.mv.map pkRow)) (ordF (t.go.map goRow))).base.length = t.mv.length := by
      show (laidF (t.mv.map pkRow) (ordF (t.mv.map pkRow)) k).1.length = _
      rw [laidF_len1, List.length_map]
    have e3 : (packF t k r (ordF (t.mv.map pkRow)) (ordF (t.go.map goRow))).gbase.length = t.mv.length := by
      show (laidF (t.go.map goRow) (ordF (t.go.map goRow)) r).1.length = _
      rw [laidF_len1, List.length_map, g3]
    exact ⟨by omega, by omega, hk2, hk, hr0, hr, by omega, by omega⟩
  refine ⟨hu, ?_, hR⟩
  rw [(up_t hu).1]
  have en : (packF t k r (ordF (t.mv.map pkRow)) (ordF (t.go.map goRow))).dflt.length = t.mv.length := List.length_map ..
  rw [en]
  have hXM : ∀ x ∈ t.mv.map pkRow, ∀ y ∈ x, 0 ≤ y := fun x hx y hy => ((hpm x hx).1 y hy).1
  have hXG : ∀ x ∈ t.go.map goRow, ∀ y ∈ x, 0 ≤ y := fun x hx y hy => ((hgm x hx).1 y hy).1
  have hrowM : ∀ s, s < t.mv.length → (t.mv.map pkRow).getD s [] = pkRow (t.mv.getD s []) := fun s hs => getD_map' pkRow [] [] hs
  have hrowG : ∀ s, s < t.go.length → (t.go.map goRow).getD s [] = goRow (t.go.getD s []) := fun s hs => getD_map' goRow [] [] hs
  have hcl := cellsUpto_len (z := mv0) (check := (laidF (t.mv.map pkRow) (ordF (t.mv.map pkRow)) k).2) (base := (laidF (t.mv.map pkRow) (ordF (t.mv.map pkRow)) k).1) (rows := t.mv) (Nat.le_refl _)
  have hgl := cellsUpto_len (z := (0 : Int)) (check := (laidF (t.go.map goRow) (ordF (t.go.map goRow)) r).2) (base := (laidF (t.go.map goRow) (ordF (t.go.map goRow)) r).1) (rows := t.go) (Nat.le_refl _)
  have hlm : (t.mv.map pkRow).length = t.mv.length := List.length_map ..
  have hlg : (t.go.map goRow).length = t.go.length := List.length_map ..
  have key1 : ∀ s, s < t.mv.length → mvRow (packF t k r (ordF (t.mv.map pkRow)) (ordF (t.go.map goRow))) s k.toNat = dfRow (t.mv.getD s []) := fun s hs => by
    have hrl := (g4 s hs).1
    refine ext_getD mv0 (by rw [mvRow_len, dfRow, List.length_map]; omega) fun j => ?_
    rcases Nat.lt_or_ge j k.toNat with hj | hj
    · have e1 : (mvRow (packF t k r (ordF (t.mv.map pkRow)) (ordF (t.go.map goRow))) s k.toNat).getD j mv0 = lookMv (packF t k r (ordF (t.mv.map pkRow)) (ordF (t.go.map goRow))) s j := by
        rw [mvRow, List.getD_eq_getElem?_getD, List.getElem?_map, List.getElem?_range hj]; rfl
      have e2 : (dfRow (t.mv.getD s [])).getD j mv0 = dfm (t.mv.getD s []) ((t.mv.getD s []).getD j mv0) := getD_map' _ mv0 mv0 (by omega)
      rw [e1, e2, lookMv, if_neg (by
        show ¬ ((s : Int) < 0 ∨ (s : Int) ≥ (t.mv.map usualF).length ∨ (j : Int) < 0 ∨ (j : Int) ≥ k)
        rw [List.length_map]
        omega)]
      show (if cellF (laidF (t.mv.map pkRow) (ordF (t.mv.map pkRow)) k).1 (laidF (t.mv.map pkRow) (ordF (t.mv.map pkRow)) k).2 ((cellsUpto mv0 (laidF (t.mv.map pkRow) (ordF (t.mv.map pkRow)) k).2 (laidF (t.mv.map pkRow) (ordF (t.mv.map pkRow)) k).1 t.mv (laidF (t.mv.map pkRow) (ordF (t.mv.map pkRow)) k).2.length).length : Int) s j < 0 then (t.mv.map usualF).getD (s : Int).toNat mv0 else (cellsUpto mv0 (laidF (t.mv.map pkRow) (ordF (t.mv.map pkRow)) k).2 (laidF (t.mv.map pkRow) (ordF (t.mv.map pkRow)) k).1 t.mv (laidF (t.mv.map pkRow) (ordF (t.mv.map pkRow)) k).2.length).getD (cellF (laidF (t.mv.map pkRow) (ordF (t.mv.map pkRow)) k).1 (laidF (t.mv.map pkRow) (ordF (t.mv.map pkRow)) k).2 ((cellsUpto mv0 (laidF (t.mv.map pkRow) (ordF (t.mv.map pkRow)) k).2 (laidF (t.mv.map pkRow) (ordF (t.mv.map pkRow)) k).1 t.mv (laidF (t.mv.map pkRow) (ordF (t.mv.map pkRow)) k).2.length).length : Int) s j).toNat mv0) = _
      rw [hcl, Int.toNat_natCast, getD_map' usualF [] mv0 hs]
      by_cases hkeep : keepM (t.mv.getD s []) j = true
      · obtain ⟨c1, c2, c3⟩ := cell_yes (z := mv0) (src := t.mv) (least := k) hXM (s := s) (j := j) (by omega) (by rw [hrowM s hs]; exact pkUpto_has (by omega) hkeep)
        rw [c1, if_neg (by omega), c2]
        unfold keepM at hkeep
        rw [Bool.and_eq_true] at hkeep
        have hd : ¬ ((t.mv.getD s []).getD j mv0).d = 0 := by simpa using hkeep.2
        rw [dfm, if_neg hd]
      · rw [cell_no hXM (s := s) (j := j) (by
          rw [hrowM s hs]
          intro hm
          have := (pkUpto_mem hm).2.2
          rw [Int.toNat_natCast] at this
          exact hkeep this), if_pos (by omega)]
        unfold dfm
        split
        · rfl
        · rename_i hd
          have hu2 : (t.mv.getD s []).getD j mv0 = usualF (t.mv.getD s []) := by
            refine Classical.byContradiction fun hne => hkeep ?_
            unfold keepM
            rw [decide_eq_false hne, decide_eq_false hd]
            rfl
          exact hu2.symm
    · rw [List.getD_eq_getElem?_getD, List.getD_eq_getElem?_getD, List.getElem?_eq_none (by rw [mvRow_len]; exact hj), List.getElem?_eq_none (by rw [dfRow, List.length_map]; omega)]
  have key2 : ∀ s, s < t.go.length → goRw (packF t k r (ordF (t.mv.map pkRow)) (ordF (t.go.map goRow))) s r.toNat = t.go.getD s [] := fun s hs => by
    have hrl := (g4 s (by omega)).2.1
    have hgo := (g4 s (by omega)).2.2.2
    refine ext_getD 0 (by rw [goRw_len]; omega) fun j => ?_
    rcases Nat.lt_or_ge j r.toNat with hj | hj
    · have e1 : (goRw (packF t k r (ordF (t.mv.map pkRow)) (ordF (t.go.map goRow))) s r.toNat).getD j 0 = lookGo (packF t k r (ordF (t.mv.map pkRow)) (ordF (t.go.map goRow))) s j := by
        rw [goRw, List.getD_eq_getElem?_getD, List.getElem?_map, List.getElem?_range hj]; rfl
      rw [e1, lookGo, if_neg (by
        show ¬ ((s : Int) < 0 ∨ (s : Int) ≥ (t.mv.map usualF).length ∨ (j : Int) < 0 ∨ (j : Int) ≥ r)
        rw [List.length_map]
        omega)]
      show (if cellF (laidF (t.go.map goRow) (ordF (t.go.map goRow)) r).1 (laidF (t.go.map goRow) (ordF (t.go.map goRow)) r).2 ((cellsUpto 0 (laidF (t.go.map goRow) (ordF (t.go.map goRow)) r).2 (laidF (t.go.map goRow) (ordF (t.go.map goRow)) r).1 t.go (laidF (t.go.map goRow) (ordF (t.go.map goRow)) r).2.length).length : Int) s j < 0 then (-1 : Int) else (cellsUpto 0 (laidF (t.go.map goRow) (ordF (t.go.map goRow)) r).2 (laidF (t.go.map goRow) (ordF (t.go.map goRow)) r).1 t.go (laidF (t.go.map goRow) (ordF (t.go.map goRow)) r).2.length).getD (cellF (laidF (t.go.map goRow) (ordF (t.go.map goRow)) r).1 (laidF (t.go.map goRow) (ordF (t.go.map goRow)) r).2 ((cellsUpto 0 (laidF (t.go.map goRow) (ordF (t.go.map goRow)) r).2 (laidF (t.go.map goRow) (ordF (t.go.map goRow)) r).1 t.go (laidF (t.go.map goRow) (ordF (t.go.map goRow)) r).2.length).length : Int) s j).toNat 0) = _
      rw [hgl]
      by_cases hkeep : keepG (t.go.getD s []) j = true
      · obtain ⟨c1, c2, c3⟩ := cell_yes (z := (0 : Int)) (src := t.go) (least := r) hXG (s := s) (j := j) (by omega) (by rw [hrowG s hs]; exact pkUpto_has (by omega) hkeep)
        rw [c1, if_neg (by omega), c2]
      · rw [cell_no hXG (s := s) (j := j) (by
          rw [hrowG s hs]
          intro hm
          have := (pkUpto_mem hm).2.2
          rw [Int.toNat_natCast] at this
          exact hkeep this), if_pos (by omega)]
        have hneg : ¬ 0 ≤ (t.go.getD s []).getD j 0 := fun h => hkeep (decide_eq_true h)
        have := (hgo j (by omega)).1
        omega
    · rw [List.getD_eq_getElem?_getD, List.getD_eq_getElem?_getD, List.getElem?_eq_none (by rw [goRw_len]; exact hj), List.getElem?_eq_none (by omega)]
  show (⟨mvs _ _, gos _ _⟩ : Tb) = ⟨t.mv.map dfRow, t.go⟩
  congr 1
  · refine ext_getD [] (by rw [mvs_len, List.length_map]) fun s => ?_
    rcases Nat.lt_or_ge s t.mv.length with hs | hs
    · rw [mvs, List.getD_eq_getElem?_getD, List.getElem?_map, List.getElem?_range hs, getD_map' dfRow [] [] hs, ← key1 s hs]
      rfl
    · rw [List.getD_eq_getElem?_getD, List.getD_eq_getElem?_getD, List.getElem?_eq_none (by rw [mvs_len]; exact hs), List.getElem?_eq_none (by rw [List.length_map]; exact hs)]
  · refine ext_getD [] (by rw [gos_len, g3]) fun s => ?_
    rcases Nat.lt_or_ge s t.mv.length with hs | hs
    · rw [gos, List.getD_eq_getElem?_getD, List.getElem?_map, List.getElem?_range hs, ← key2 s (by omega)]
      rfl
    · rw [List.getD_eq_getElem?_getD, List.getD_eq_getElem?_getD, List.getElem?_eq_none (by rw [gos_len]; exact hs), List.getElem?_eq_none (by omega)]
end Go.Proofs.YtkpehkadammppaaFx

/-! Tables compared; tables whose rows are as long as the first. -/
namespace Go.Proofs.Ytkpehkadammppaa.TabA
open Go Go.RowKit Go.Proofs.YtkpehkadammppaaFx 
theorem agg48 : Agg Try.prog 48 2 := agg_of Try.underlying48 (by kernel_rfl)
theorem en39 : Enters Try.prog 39 := enters Try.func39 (by kernel_rfl) rfl
theorem en40 : Enters Try.prog 40 := enters Try.func40 (by kernel_rfl) rfl
theorem eqm48 : EqlMv Try.prog 48 := eql_mv (e := 3) Try.underlying48 (by kernel_rfl) (by kernel_rfl) Try.underlying3 rfl rfl
theorem fa25_0 : FieldAt Try.prog 25 0 0 := field_at (sz := 0) Try.underlying25 rfl (by kernel_rfl) rfl
theorem fa25_1 : FieldAt Try.prog 25 1 1 := field_at (sz := 0) Try.underlying25 rfl (by kernel_rfl) rfl
theorem mixed : Try.prog.follows .mixedOrders = true := by kernel_rfl
theorem one22 : One Try.prog 22 := one_of Try.underlying22 rfl (by kernel_rfl)
theorem one23 : One Try.prog 23 := one_of Try.underlying23 rfl (by kernel_rfl)
theorem one3 : One Try.prog 3 := one_of Try.underlying3 rfl (by kernel_rfl)
theorem one38 : One Try.prog 38 := one_of Try.underlying38 rfl (by kernel_rfl)
theorem one39 : One Try.prog 39 := one_of Try.underlying39 rfl (by kernel_rfl)
theorem sz3 : ∀ W, (sizeOf 3).run Try.prog W = .ok 1 W := size_of (by kernel_rfl)
theorem sz38 : ∀ W, (sizeOf 38).run Try.prog W = .ok 1 W := size_of (by kernel_rfl)
theorem sz39 : ∀ W, (sizeOf 39).run Try.prog W = .ok 1 W := size_of (by kernel_rfl)
theorem sz48 : ∀ W, (sizeOf 48).run Try.prog W = .ok 2 W := size_of (by kernel_rfl)

set_option maxRecDepth 100000 in
theorem sameInts_calls {A B : Option Addr} {ca cb : Nat} {xs ys : List Int} {w : World} (hx : Rd (kInt .i64) w A xs) (hy : Rd (kInt .i64) w B ys) (hm : xs.length ≤ 1099511627776) (hn : ys.length ≤ 1099511627776) :
    Calls Try.prog 40 #[.slice A xs.length ca, .slice B ys.length cb] w fun e w' => ∃ v, e = .returned v ∧ v = .bool (decide (xs = ys)) ∧ Holds w [] w' := by
  refine calls_of Try.func40 rfl Try.ntmps40 rfl ?_
  have H := Holds.start w
  refine wc_seq ?_
  refine wc_region ?_
  refine wl_v rfl rfl rfl (v_assign rfl) ?_
  refine wl_nil ?_
  refine wc_seq ?_
  refine wc_seq ?_
  refine wc_region ?_
  refine wl_v rfl rfl rfl (v_move rfl) ?_
  refine wl_v rfl rfl rfl (v_len Try.underlying39 rfl) ?_
  refine wl_v rfl rfl rfl (v_move rfl) ?_
  refine wl_v rfl rfl rfl (v_len Try.underlying39 rfl) ?_
  refine wl_v rfl rfl rfl (v_neq rfl rfl) ?_
  refine wl_nil ?_
  refine wc_cond rfl (fun c0 => ?_) (fun c0 => ?_)
  · have c0p := of_nd_t c0
    refine wc_seq ?_
    refine wc_region ?_
    refine wl_v rfl rfl rfl (v_assign rfl) ?_
    refine wl_nil ?_
    refine wc_ret ?_
    first
      | exact ⟨_, res1 rfl rfl, congrArg Value.bool (decide_eq_true (eq_done ha c0p c1p)).symm, H⟩
      | exact ⟨_, res1 rfl rfl, congrArg Value.bool (decide_eq_false (ne_len c0p)).symm, H⟩
      | exact ⟨_, res1 rfl rfl, congrArg Value.bool (decide_eq_false (ne_at (i := i) (z := 0) c2p)).symm, H⟩
  · have c0p := of_nd_f c0
    refine wc_skip ?_
    refine wc_seq ?_
    refine wc_seq ?_
    refine wc_region ?_
    refine wl_v rfl rfl rfl (v_assign rfl) ?_
    refine wl_nil ?_
    refine wc_block ?_
    refine wc_loop (σ := Nat) (fun s => [(0, .slice A xs.length ca), (1, .slice B ys.length cb), (5, .int .i64 s)]) (fun s W => s ≤ xs.length ∧ xs.take s = ys.take s ∧ Holds w [] W) (fun s => xs.length - s) 0 (sc rfl (sc rfl (sc rfl (sn _)))) ⟨Nat.zero_le _, rfl, H⟩ ?_
    rintro i W0 ⟨hi, ha, H⟩
    refine wc_seq ?_
    refine wc_seq ?_
    refine wc_region ?_
    refine wl_v rfl rfl rfl (v_move rfl) ?_
    refine wl_v rfl rfl rfl (v_move rfl) ?_
    refine wl_v rfl rfl rfl (v_len Try.underlying39 rfl) ?_
    refine wl_v rfl rfl rfl (v_lss rfl rfl) ?_
    refine wl_nil ?_
    refine wc_cond rfl (fun c1 => ?_) (fun c1 => ?_)
    · have c1p := of_decide_eq_true c1
      refine wc_skip ?_
      refine wc_seq ?_
      refine wc_block ?_
      refine wc_seq ?_
      refine wc_still mixed (by kernel_rfl) ?_
      have Hd := H.drew
      refine ws_v rfl rfl rfl (v_move rfl) ?_
      refine ws_v rfl rfl rfl (v_move rfl) ?_
      refine ws_v rfl rfl rfl (v_idx Try.underlying39 sz3 hx.ad rfl rfl (by omega) (by omega)) ?_
      refine ws_v rfl rfl rfl (v_load one3 rfl (Hd.cell (hx.at1N (i := i) (by omega)))) ?_
      refine ws_v rfl rfl rfl (v_move rfl) ?_
      refine ws_v rfl rfl rfl (v_move rfl) ?_
      refine ws_v rfl rfl rfl (v_idx Try.underlying39 sz3 hy.ad rfl rfl (by omega) (by omega)) ?_
      refine ws_v rfl rfl rfl (v_load one3 rfl (Hd.cell (hy.at1N (i := i) (by omega)))) ?_
      refine ws_v rfl rfl rfl (v_neq rfl rfl) ?_
      refine ws_nil ?_
      refine wc_cond rfl (fun c2 => ?_) (fun c2 => ?_)
      · have c2p := of_nd_t c2
        refine wc_seq ?_
        refine wc_region ?_
        refine wl_v rfl rfl rfl (v_assign rfl) ?_
        refine wl_nil ?_
        refine wc_ret ?_
        first
          | exact ⟨_, res1 rfl rfl, congrArg Value.bool (decide_eq_true (eq_done ha c0p c1p)).symm, Hd⟩
          | exact ⟨_, res1 rfl rfl, congrArg Value.bool (decide_eq_false (ne_len c0p)).symm, Hd⟩
          | exact ⟨_, res1 rfl rfl, congrArg Value.bool (decide_eq_false (ne_at (i := i) (z := 0) c2p)).symm, Hd⟩
      · have c2p := of_nd_f c2
        refine wc_skip ?_
        refine wc_region ?_
        refine wl_v rfl rfl rfl (v_move rfl) ?_
        refine wl_v rfl rfl rfl (v_addi rfl rfl (by omega)) ?_
        refine wl_v rfl rfl rfl (v_assign rfl) ?_
        refine wl_nil ?_
        exact ⟨i + 1, (sc rfl (sc rfl (sc rfl (sn _)))), ⟨by omega, eq_step 0 ha c0p (by omega) c2p, Hd⟩, by omega⟩
    · have c1p := of_decide_eq_false c1
      refine wc_exit ?_
      refine wc_seq ?_
      refine wc_region ?_
      refine wl_v rfl rfl rfl (v_assign rfl) ?_
      refine wl_nil ?_
      refine wc_ret ?_
      first
        | exact ⟨_, res1 rfl rfl, congrArg Value.bool (decide_eq_true (eq_done ha c0p c1p)).symm, H⟩
        | exact ⟨_, res1 rfl rfl, congrArg Value.bool (decide_eq_false (ne_len c0p)).symm, H⟩
        | exact ⟨_, res1 rfl rfl, congrArg Value.bool (decide_eq_false (ne_at (i := i) (z := 0) c2p)).symm, H⟩

set_option maxRecDepth 100000 in
theorem sameMoves_calls {A B : Option Addr} {ca cb : Nat} {xs ys : List Mv} {w : World} (hx : Rd fMv.kn w A xs) (hy : Rd fMv.kn w B ys) (hm : xs.length ≤ 1099511627776) (hn : ys.length ≤ 1099511627776) :
    Calls Try.prog 39 #[.slice A xs.length ca, .slice B ys.length cb] w fun e w' => ∃ v, e = .returned v ∧ v = .bool (decide (xs = ys)) ∧ Holds w [] w' := by
  refine calls_of Try.func39 rfl Try.ntmps39 rfl ?_
  have H := Holds.start w
  refine wc_seq ?_
  refine wc_region ?_
  refine wl_v rfl rfl rfl (v_assign rfl) ?_
  refine wl_nil ?_
  refine wc_seq ?_
  refine wc_seq ?_
  refine wc_region ?_
  refine wl_v rfl rfl rfl (v_move rfl) ?_
  refine wl_v rfl rfl rfl (v_len Try.underlying38 rfl) ?_
  refine wl_v rfl rfl rfl (v_move rfl) ?_
  refine wl_v rfl rfl rfl (v_len Try.underlying38 rfl) ?_
  refine wl_v rfl rfl rfl (v_neq rfl rfl) ?_
  refine wl_nil ?_
  refine wc_cond rfl (fun c0 => ?_) (fun c0 => ?_)
  · have c0p := of_nd_t c0
    refine wc_seq ?_
    refine wc_region ?_
    refine wl_v rfl rfl rfl (v_assign rfl) ?_
    refine wl_nil ?_
    refine wc_ret ?_
    first
      | exact ⟨_, res1 rfl rfl, congrArg Value.bool (decide_eq_true (eq_done ha c0p c1p)).symm, H⟩
      | exact ⟨_, res1 rfl rfl, congrArg Value.bool (decide_eq_false (ne_len c0p)).symm, H⟩
      | exact ⟨_, res1 rfl rfl, congrArg Value.bool (decide_eq_false (ne_at (i := i) (z := mv0) c2p)).symm, H⟩
  · have c0p := of_nd_f c0
    refine wc_skip ?_
    refine wc_seq ?_
    refine wc_seq ?_
    refine wc_region ?_
    refine wl_v rfl rfl rfl (v_assign rfl) ?_
    refine wl_nil ?_
    refine wc_block ?_
    refine wc_loop (σ := Nat) (fun s => [(0, .slice A xs.length ca), (1, .slice B ys.length cb), (5, .int .i64 s)]) (fun s W => s ≤ xs.length ∧ xs.take s = ys.take s ∧ Holds w [] W) (fun s => xs.length - s) 0 (sc rfl (sc rfl (sc rfl (sn _)))) ⟨Nat.zero_le _, rfl, H⟩ ?_
    rintro i W0 ⟨hi, ha, H⟩
    refine wc_seq ?_
    refine wc_seq ?_
    refine wc_region ?_
    refine wl_v rfl rfl rfl (v_move rfl) ?_
    refine wl_v rfl rfl rfl (v_move rfl) ?_
    refine wl_v rfl rfl rfl (v_len Try.underlying38 rfl) ?_
    refine wl_v rfl rfl rfl (v_lss rfl rfl) ?_
    refine wl_nil ?_
    refine wc_cond rfl (fun c1 => ?_) (fun c1 => ?_)
    · have c1p := of_decide_eq_true c1
      refine wc_skip ?_
      refine wc_seq ?_
      refine wc_block ?_
      refine wc_seq ?_
      refine wc_still mixed (by kernel_rfl) ?_
      have Hd := H.drew
      refine ws_v rfl rfl rfl (v_move rfl) ?_
      refine ws_v rfl rfl rfl (v_move rfl) ?_
      refine ws_v rfl rfl rfl (v_idx Try.underlying38 sz48 hx.ad rfl rfl (by omega) (by omega)) ?_
      refine ws_v rfl rfl rfl (v_loadN (cs := fMv.enc _) agg48 rfl rfl (fun k u hu => Hd.cell (hx.atN (i := i) (k := k) mv0 (by omega) hu))) ?_
      refine ws_v rfl rfl rfl (v_move rfl) ?_
      refine ws_v rfl rfl rfl (v_move rfl) ?_
      refine ws_v rfl rfl rfl (v_idx Try.underlying38 sz48 hy.ad rfl rfl (by omega) (by omega)) ?_
      refine ws_v rfl rfl rfl (v_loadN (cs := fMv.enc _) agg48 rfl rfl (fun k u hu => Hd.cell (hy.atN (i := i) (k := k) mv0 (by omega) hu))) ?_
      refine ws_v rfl rfl rfl (v_neqm  eqm48 rfl rfl) ?_
      refine ws_nil ?_
      refine wc_cond rfl (fun c2 => ?_) (fun c2 => ?_)
      · have c2p := of_nd_t c2
        refine wc_seq ?_
        refine wc_region ?_
        refine wl_v rfl rfl rfl (v_assign rfl) ?_
        refine wl_nil ?_
        refine wc_ret ?_
        first
          | exact ⟨_, res1 rfl rfl, congrArg Value.bool (decide_eq_true (eq_done ha c0p c1p)).symm, Hd⟩
          | exact ⟨_, res1 rfl rfl, congrArg Value.bool (decide_eq_false (ne_len c0p)).symm, Hd⟩
          | exact ⟨_, res1 rfl rfl, congrArg Value.bool (decide_eq_false (ne_at (i := i) (z := mv0) c2p)).symm, Hd⟩
      · have c2p := of_nd_f c2
        refine wc_skip ?_
        refine wc_region ?_
        refine wl_v rfl rfl rfl (v_move rfl) ?_
        refine wl_v rfl rfl rfl (v_addi rfl rfl (by omega)) ?_
        refine wl_v rfl rfl rfl (v_assign rfl) ?_
        refine wl_nil ?_
        exact ⟨i + 1, (sc rfl (sc rfl (sc rfl (sn _)))), ⟨by omega, eq_step mv0 ha c0p (by omega) c2p, Hd⟩, by omega⟩
    · have c1p := of_decide_eq_false c1
      refine wc_exit ?_
      refine wc_seq ?_
      refine wc_region ?_
      refine wl_v rfl rfl rfl (v_assign rfl) ?_
      refine wl_nil ?_
      refine wc_ret ?_
      first
        | exact ⟨_, res1 rfl rfl, congrArg Value.bool (decide_eq_true (eq_done ha c0p c1p)).symm, H⟩
        | exact ⟨_, res1 rfl rfl, congrArg Value.bool (decide_eq_false (ne_len c0p)).symm, H⟩
        | exact ⟨_, res1 rfl rfl, congrArg Value.bool (decide_eq_false (ne_at (i := i) (z := mv0) c2p)).symm, H⟩

set_option maxRecDepth 100000 in
theorem same_calls {A B A2 B2 : Option Addr} {ca cb ca2 cb2 : Nat} {s1 s2 : Tb} {w : World} (hx : s1.rd w A B) (hy : s2.rd w A2 B2) (hk : s1.ok) (hk2 : s2.ok) :
    Calls Try.prog 14 #[s1.val A B ca cb, s2.val A2 B2 ca2 cb2] w fun e w' => ∃ v, e = .returned v ∧ v = .bool (decide (s1 = s2)) ∧ Holds w [] w' := by
  have hM := hx.m
  have hG := hx.g
  have hM2 := hy.m
  have hG2 := hy.g
  have q1 := hk.m'
  have q2 := hk.g'
  have q3 := hk2.m'
  have q4 := hk2.g'
  have hX : ∀ {p q : Tb}, p = q → p.mv = q.mv ∧ p.go = q.go := fun h => ⟨congrArg _ h, congrArg _ h⟩
  have hY : ∀ {p q : Tb}, p.mv = q.mv → p.go = q.go → p = q := fun {p q} h1 h2 => by cases p; cases q; simp_all
  refine calls_of Try.func14 rfl Try.ntmps14 rfl ?_
  have H := Holds.start w
  refine wc_seq ?_
  refine wc_region ?_
  refine wl_box (cs := [_, _]) H rfl rfl rfl ?_
  intro b2 w1 hb2 H2
  refine wl_box (cs := [_, _]) H2 rfl rfl rfl ?_
  intro b3 w3 hb3 H4
  refine wl_v rfl rfl rfl (v_assign rfl) ?_
  refine wl_nil ?_
  refine wc_seq ?_
  refine wc_seq ?_
  refine wc_region ?_
  refine wl_v rfl rfl rfl (v_fb (o2 := 0) fa25_0 rfl rfl) ?_
  refine wl_v rfl rfl rfl (v_load one22 rfl (H4.at (by repeat constructor) rfl)) ?_
  refine wl_v rfl rfl rfl (v_len Try.underlying22 rfl) ?_
  refine wl_v rfl rfl rfl (v_fb (o2 := 0) fa25_0 rfl rfl) ?_
  refine wl_v rfl rfl rfl (v_load one22 rfl (H4.at (by repeat constructor) rfl)) ?_
  refine wl_v rfl rfl rfl (v_len Try.underlying22 rfl) ?_
  refine wl_v rfl rfl rfl (v_neq rfl rfl) ?_
  refine wl_v rfl rfl rfl (v_move rfl) ?_
  refine wl_guard rfl rfl rfl (fun g14 => ?_) (fun g14 => ?_)
  · have g14p := of_nd_f g14
    refine wl_v rfl rfl rfl (v_fb (o2 := 1) fa25_1 rfl rfl) ?_
    refine wl_on' rfl rfl g14 ?_
    refine wl_v rfl rfl rfl (v_load one23 rfl (H4.at (by repeat constructor) rfl)) ?_
    refine wl_on' rfl rfl g14 ?_
    refine wl_v rfl rfl rfl (v_len Try.underlying23 rfl) ?_
    refine wl_on' rfl rfl g14 ?_
    refine wl_v rfl rfl rfl (v_fb (o2 := 1) fa25_1 rfl rfl) ?_
    refine wl_on' rfl rfl g14 ?_
    refine wl_v rfl rfl rfl (v_load one23 rfl (H4.at (by repeat constructor) rfl)) ?_
    refine wl_on' rfl rfl g14 ?_
    refine wl_v rfl rfl rfl (v_len Try.underlying23 rfl) ?_
    refine wl_on' rfl rfl g14 ?_
    refine wl_v rfl rfl rfl (v_neq rfl rfl) ?_
    refine wl_v rfl rfl rfl (v_pick_f rfl g14 rfl) ?_
    refine wl_nil ?_
    refine wc_cond rfl (fun c0 => ?_) (fun c0 => ?_)
    · have c0p := of_nd_t c0
      refine wc_seq ?_
      refine wc_region ?_
      refine wl_v rfl rfl rfl (v_assign rfl) ?_
      refine wl_nil ?_
      refine wc_ret ?_
      first
        | exact ⟨_, res1 rfl rfl, congrArg Value.bool (decide_eq_true (hY (eq_done ha g14p c1p) (eq_done ha2 c0p c3p))).symm, H4.tail.tail⟩
        | exact ⟨_, res1 rfl rfl, congrArg Value.bool (decide_eq_false (fun h => ne_len g14p (hX h).1)).symm, H4.tail.tail⟩
        | exact ⟨_, res1 rfl rfl, congrArg Value.bool (decide_eq_false (fun h => ne_len c0p (hX h).2)).symm, H4.tail.tail⟩
        | exact ⟨_, res1 rfl rfl, congrArg Value.bool (decide_eq_false (fun h => ne_at (i := i) (z := []) c2p (hX h).1)).symm, H4.tail.tail⟩
        | exact ⟨_, res1 rfl rfl, congrArg Value.bool (decide_eq_false (fun h => ne_at (i := i) (z := []) c4p (hX h).2)).symm, H4.tail.tail⟩
    · have c0p := of_nd_f c0
      refine wc_skip ?_
      refine wc_seq ?_
      refine wc_seq ?_
      refine wc_region ?_
      refine wl_v rfl rfl rfl (v_assign rfl) ?_
      refine wl_nil ?_
      refine wc_block ?_
      refine wc_loop (σ := Nat) (fun s => [(2, .pointer (some ⟨b2, 0, none⟩)), (3, .pointer (some ⟨b3, 0, none⟩)), (5, .int .i64 s)]) (fun s W => s ≤ s1.mv.length ∧ s1.mv.take s = s2.mv.take s ∧ Holds w [Blk b3 25 [.slice A2 s2.mv.length ca2, .slice B2 s2.go.length cb2], Blk b2 25 [.slice A s1.mv.length ca, .slice B s1.go.length cb]] W) (fun s => s1.mv.length - s) 0 (sc rfl (sc rfl (sc rfl (sn _)))) ⟨Nat.zero_le _, rfl, H4⟩ ?_
      rintro i W0 ⟨hi, ha, H⟩
      refine wc_seq ?_
      refine wc_seq ?_
      refine wc_region ?_
      refine wl_v rfl rfl rfl (v_move rfl) ?_
      refine wl_v rfl rfl rfl (v_fb (o2 := 0) fa25_0 rfl rfl) ?_
      refine wl_v rfl rfl rfl (v_load one22 rfl (H.at (by repeat constructor) rfl)) ?_
      refine wl_v rfl rfl rfl (v_len Try.underlying22 rfl) ?_
      refine wl_v rfl rfl rfl (v_lss rfl rfl) ?_
      refine wl_nil ?_
      refine wc_cond rfl (fun c1 => ?_) (fun c1 => ?_)
      · have c1p := of_decide_eq_true c1
        refine wc_skip ?_
        refine wc_seq ?_
        refine wc_block ?_
        refine wc_seq ?_
        refine wc_tail 10 mixed (by kernel_rfl) ?_
        have Hd := H.drew
        refine ws_v rfl rfl rfl (v_fb (o2 := 0) fa25_0 rfl rfl) ?_
        refine ws_v rfl rfl rfl (v_load one22 rfl (Hd.at (by repeat constructor) rfl)) ?_
        refine ws_v rfl rfl rfl (v_move rfl) ?_
        refine ws_v rfl rfl rfl (v_idx Try.underlying22 sz38 hM.ad rfl rfl (by omega) (by omega)) ?_
        obtain ⟨B34, cp34, hc34, hl34, hr34⟩ := hM.atSlN (i := i) (by omega)
        refine ws_v rfl rfl rfl (v_load one38 rfl (Hd.cell (hc34))) ?_
        refine ws_v rfl rfl rfl (v_fb (o2 := 0) fa25_0 rfl rfl) ?_
        refine ws_v rfl rfl rfl (v_load one22 rfl (Hd.at (by repeat constructor) rfl)) ?_
        refine ws_v rfl rfl rfl (v_move rfl) ?_
        refine ws_v rfl rfl rfl (v_idx Try.underlying22 sz38 hM2.ad rfl rfl (by omega) (by omega)) ?_
        obtain ⟨B39, cp39, hc39, hl39, hr39⟩ := hM2.atSlN (i := i) (by omega)
        refine ws_v rfl rfl rfl (v_load one38 rfl (Hd.cell (hc39))) ?_
        refine ws_nil ?_
        refine wl_call en39 rfl rfl (sameMoves_calls (hr34.below Hd.old) (hr39.below Hd.old) (hk.ml (by omega)) (hk2.ml (by omega))) ?_
        rintro _ w5 ⟨rfl, Hc⟩
        have H6 := Hd.call Hc
        refine wl_v rfl rfl rfl (v_not rfl) ?_
        refine wl_nil ?_
        refine wc_cond rfl (fun c2 => ?_) (fun c2 => ?_)
        · have c2p := of_nd_t c2
          refine wc_seq ?_
          refine wc_region ?_
          refine wl_v rfl rfl rfl (v_assign rfl) ?_
          refine wl_nil ?_
          refine wc_ret ?_
          first
            | exact ⟨_, res1 rfl rfl, congrArg Value.bool (decide_eq_true (hY (eq_done ha g14p c1p) (eq_done ha2 c0p c3p))).symm, H6.tail.tail⟩
            | exact ⟨_, res1 rfl rfl, congrArg Value.bool (decide_eq_false (fun h => ne_len g14p (hX h).1)).symm, H6.tail.tail⟩
            | exact ⟨_, res1 rfl rfl, congrArg Value.bool (decide_eq_false (fun h => ne_len c0p (hX h).2)).symm, H6.tail.tail⟩
            | exact ⟨_, res1 rfl rfl, congrArg Value.bool (decide_eq_false (fun h => ne_at (i := i) (z := []) c2p (hX h).1)).symm, H6.tail.tail⟩
            | exact ⟨_, res1 rfl rfl, congrArg Value.bool (decide_eq_false (fun h => ne_at (i := i) (z := []) c4p (hX h).2)).symm, H6.tail.tail⟩
        · have c2p := of_nd_f c2
          refine wc_skip ?_
          refine wc_region ?_
          refine wl_v rfl rfl rfl (v_move rfl) ?_
          refine wl_v rfl rfl rfl (v_addi rfl rfl (by omega)) ?_
          refine wl_v rfl rfl rfl (v_assign rfl) ?_
          refine wl_nil ?_
          exact ⟨i + 1, (sc rfl (sc rfl (sc rfl (sn _)))), ⟨by omega, eq_step [] ha g14p (by omega) c2p, H6⟩, by omega⟩
      · have c1p := of_decide_eq_false c1
        refine wc_exit ?_
        refine wc_seq ?_
        refine wc_seq ?_
        refine wc_region ?_
        refine wl_v rfl rfl rfl (v_assign rfl) ?_
        refine wl_nil ?_
        refine wc_block ?_
        refine wc_loop (σ := Nat) (fun s => [(2, .pointer (some ⟨b2, 0, none⟩)), (3, .pointer (some ⟨b3, 0, none⟩)), (6, .int .i64 s)]) (fun s W => s ≤ s1.go.length ∧ s1.go.take s = s2.go.take s ∧ Holds w [Blk b3 25 [.slice A2 s2.mv.length ca2, .slice B2 s2.go.length cb2], Blk b2 25 [.slice A s1.mv.length ca, .slice B s1.go.length cb]] W) (fun s => s1.go.length - s) 0 (sc rfl (sc rfl (sc rfl (sn _)))) ⟨Nat.zero_le _, rfl, H⟩ ?_
        rintro i W1 ⟨hi, ha2, H⟩
        refine wc_seq ?_
        refine wc_seq ?_
        refine wc_region ?_
        refine wl_v rfl rfl rfl (v_move rfl) ?_
        refine wl_v rfl rfl rfl (v_fb (o2 := 1) fa25_1 rfl rfl) ?_
        refine wl_v rfl rfl rfl (v_load one23 rfl (H.at (by repeat constructor) rfl)) ?_
        refine wl_v rfl rfl rfl (v_len Try.underlying23 rfl) ?_
        refine wl_v rfl rfl rfl (v_lss rfl rfl) ?_
        refine wl_nil ?_
        refine wc_cond rfl (fun c3 => ?_) (fun c3 => ?_)
        · have c3p := of_decide_eq_true c3
          refine wc_skip ?_
          refine wc_seq ?_
          refine wc_block ?_
          refine wc_seq ?_
          refine wc_tail 10 mixed (by kernel_rfl) ?_
          have Hd := H.drew
          refine ws_v rfl rfl rfl (v_fb (o2 := 1) fa25_1 rfl rfl) ?_
          refine ws_v rfl rfl rfl (v_load one23 rfl (Hd.at (by repeat constructor) rfl)) ?_
          refine ws_v rfl rfl rfl (v_move rfl) ?_
          refine ws_v rfl rfl rfl (v_idx Try.underlying23 sz39 hG.ad rfl rfl (by omega) (by omega)) ?_
          obtain ⟨B53, cp53, hc53, hl53, hr53⟩ := hG.atSlN (i := i) (by omega)
          refine ws_v rfl rfl rfl (v_load one39 rfl (Hd.cell (hc53))) ?_
          refine ws_v rfl rfl rfl (v_fb (o2 := 1) fa25_1 rfl rfl) ?_
          refine ws_v rfl rfl rfl (v_load one23 rfl (Hd.at (by repeat constructor) rfl)) ?_
          refine ws_v rfl rfl rfl (v_move rfl) ?_
          refine ws_v rfl rfl rfl (v_idx Try.underlying23 sz39 hG2.ad rfl rfl (by omega) (by omega)) ?_
          obtain ⟨B58, cp58, hc58, hl58, hr58⟩ := hG2.atSlN (i := i) (by omega)
          refine ws_v rfl rfl rfl (v_load one39 rfl (Hd.cell (hc58))) ?_
          refine ws_nil ?_
          refine wl_call en40 rfl rfl (sameInts_calls (hr53.below Hd.old) (hr58.below Hd.old) (hk.gl (by omega)) (hk2.gl (by omega))) ?_
          rintro _ w7 ⟨rfl, Hc⟩
          have H8 := Hd.call Hc
          refine wl_v rfl rfl rfl (v_not rfl) ?_
          refine wl_nil ?_
          refine wc_cond rfl (fun c4 => ?_) (fun c4 => ?_)
          · have c4p := of_nd_t c4
            refine wc_seq ?_
            refine wc_region ?_
            refine wl_v rfl rfl rfl (v_assign rfl) ?_
            refine wl_nil ?_
            refine wc_ret ?_
            first
              | exact ⟨_, res1 rfl rfl, congrArg Value.bool (decide_eq_true (hY (eq_done ha g14p c1p) (eq_done ha2 c0p c3p))).symm, H8.tail.tail⟩
              | exact ⟨_, res1 rfl rfl, congrArg Value.bool (decide_eq_false (fun h => ne_len g14p (hX h).1)).symm, H8.tail.tail⟩
              | exact ⟨_, res1 rfl rfl, congrArg Value.bool (decide_eq_false (fun h => ne_len c0p (hX h).2)).symm, H8.tail.tail⟩
              | exact ⟨_, res1 rfl rfl, congrArg Value.bool (decide_eq_false (fun h => ne_at (i := i) (z := []) c2p (hX h).1)).symm, H8.tail.tail⟩
              | exact ⟨_, res1 rfl rfl, congrArg Value.bool (decide_eq_false (fun h => ne_at (i := i) (z := []) c4p (hX h).2)).symm, H8.tail.tail⟩
          · have c4p := of_nd_f c4
            refine wc_skip ?_
            refine wc_region ?_
            refine wl_v rfl rfl rfl (v_move rfl) ?_
            refine wl_v rfl rfl rfl (v_addi rfl rfl (by omega)) ?_
            refine wl_v rfl rfl rfl (v_assign rfl) ?_
            refine wl_nil ?_
            exact ⟨i + 1, (sc rfl (sc rfl (sc rfl (sn _)))), ⟨by omega, eq_step [] ha2 c0p (by omega) c4p, H8⟩, by omega⟩
        · have c3p := of_decide_eq_false c3
          refine wc_exit ?_
          refine wc_seq ?_
          refine wc_region ?_
          refine wl_v rfl rfl rfl (v_assign rfl) ?_
          refine wl_nil ?_
          refine wc_ret ?_
          first
            | exact ⟨_, res1 rfl rfl, congrArg Value.bool (decide_eq_true (hY (eq_done ha g14p c1p) (eq_done ha2 c0p c3p))).symm, H.tail.tail⟩
            | exact ⟨_, res1 rfl rfl, congrArg Value.bool (decide_eq_false (fun h => ne_len g14p (hX h).1)).symm, H.tail.tail⟩
            | exact ⟨_, res1 rfl rfl, congrArg Value.bool (decide_eq_false (fun h => ne_len c0p (hX h).2)).symm, H.tail.tail⟩
            | exact ⟨_, res1 rfl rfl, congrArg Value.bool (decide_eq_false (fun h => ne_at (i := i) (z := []) c2p (hX h).1)).symm, H.tail.tail⟩
            | exact ⟨_, res1 rfl rfl, congrArg Value.bool (decide_eq_false (fun h => ne_at (i := i) (z := []) c4p (hX h).2)).symm, H.tail.tail⟩
  · have g14p := of_nd_t g14
    refine wl_off rfl rfl g14 rfl ?_
    refine wl_off rfl rfl g14 rfl ?_
    refine wl_off rfl rfl g14 rfl ?_
    refine wl_off rfl rfl g14 rfl ?_
    refine wl_off rfl rfl g14 rfl ?_
    refine wl_off rfl rfl g14 rfl ?_
    refine wl_v rfl rfl rfl (v_pick_t rfl g14 rfl) ?_
    refine wl_nil ?_
    refine wc_cond_t rfl ?_
    refine wc_seq ?_
    refine wc_region ?_
    refine wl_v rfl rfl rfl (v_assign rfl) ?_
    refine wl_nil ?_
    refine wc_ret ?_
    first
      | exact ⟨_, res1 rfl rfl, congrArg Value.bool (decide_eq_true (hY (eq_done ha g14p c1p) (eq_done ha2 c0p c3p))).symm, H4.tail.tail⟩
      | exact ⟨_, res1 rfl rfl, congrArg Value.bool (decide_eq_false (fun h => ne_len g14p (hX h).1)).symm, H4.tail.tail⟩
      | exact ⟨_, res1 rfl rfl, congrArg Value.bool (decide_eq_false (fun h => ne_len c0p (hX h).2)).symm, H4.tail.tail⟩
      | exact ⟨_, res1 rfl rfl, congrArg Value.bool (decide_eq_false (fun h => ne_at (i := i) (z := []) c2p (hX h).1)).symm, H4.tail.tail⟩
      | exact ⟨_, res1 rfl rfl, congrArg Value.bool (decide_eq_false (fun h => ne_at (i := i) (z := []) c4p (hX h).2)).symm, H4.tail.tail⟩
end Go.Proofs.Ytkpehkadammppaa.TabA

/-! The law on what comes back. -/
namespace Go.Proofs.Ytkpehkadammppaa.TBack
open Go Go.RowKit Go.Proofs.YtkpehkadammppaaFx Go.Proofs.Ytkpehkadammppaa.PackW Go.Proofs.Ytkpehkadammppaa.ReadW Go.Proofs.Ytkpehkadammppaa.TabA Go.Proofs.Ytkpehkadammppaa.AliveW Go.Proofs.Ytkpehkadammppaa.BytesW Go.Proofs.Ytkpehkadammppaa.EqualW Go.Proofs.Ytkpehkadammppaa.UnpW Go.Proofs.Ytkpehkadammppaa.DfltW
theorem agg25 : Agg Try.prog 25 2 := agg_of Try.underlying25 (by kernel_rfl)
theorem agg41 : Agg Try.prog 41 9 := agg_of Try.underlying41 (by kernel_rfl)
theorem agg70 : Agg Try.prog 70 2 := agg_of Try.underlying70 (by kernel_rfl)
theorem ba70 : BuildAt Try.prog 70 [.int .i64 0, .int .i64 0] [(0, 1), (1, 1)] := build_at Try.underlying70 (by kernel_rfl) (by kernel_rfl)
theorem en10 : Enters Try.prog 10 := enters Try.func10 (by kernel_rfl) rfl
theorem en14 : Enters Try.prog 14 := enters Try.func14 (by kernel_rfl) rfl
theorem en15 : Enters Try.prog 15 := enters Try.func15 (by kernel_rfl) rfl
theorem en16 : Enters Try.prog 16 := enters Try.func16 (by kernel_rfl) rfl
theorem en21 : Enters Try.prog 21 := enters Try.func21 (by kernel_rfl) rfl
theorem en27 : Enters Try.prog 27 := enters Try.func27 (by kernel_rfl) rfl
theorem en29 : Enters Try.prog 29 := enters Try.func29 (by kernel_rfl) rfl
theorem en31 : Enters Try.prog 31 := enters Try.func31 (by kernel_rfl) rfl
theorem eqm70 : EqlMv Try.prog 70 := eql_mv2 (e := 28) (e2 := 3) Try.underlying70 (by kernel_rfl) (by kernel_rfl) Try.underlying28 Try.underlying3 rfl rfl
theorem fa25_0 : FieldAt Try.prog 25 0 0 := field_at (sz := 0) Try.underlying25 rfl (by kernel_rfl) rfl
theorem fa27_0 : FieldAt Try.prog 27 0 0 := field_at (sz := 1) Try.underlying27 rfl (by kernel_rfl) rfl
theorem fa27_1 : FieldAt Try.prog 27 1 2 := field_at (sz := 0) Try.underlying27 rfl (by kernel_rfl) rfl
theorem fa27_2 : FieldAt Try.prog 27 2 3 := field_at (sz := 0) Try.underlying27 rfl (by kernel_rfl) rfl
theorem fa27_3 : FieldAt Try.prog 27 3 4 := field_at (sz := 0) Try.underlying27 rfl (by kernel_rfl) rfl
theorem one22 : One Try.prog 22 := one_of Try.underlying22 rfl (by kernel_rfl)
theorem one3 : One Try.prog 3 := one_of Try.underlying3 rfl (by kernel_rfl)
theorem sz25 : ∀ W, (sizeOf 25).run Try.prog W = .ok 2 W := size_of (by kernel_rfl)
theorem sz41 : ∀ W, (sizeOf 41).run Try.prog W = .ok 9 W := size_of (by kernel_rfl)
theorem sz70 : ∀ W, (sizeOf 70).run Try.prog W = .ok 2 W := size_of (by kernel_rfl)
theorem zv25 : ∀ W, (zeroValue 25).run Try.prog W = .ok (.agg #[.slice none 0 0, .slice none 0 0]) W := zero_of (by kernel_rfl)
theorem zv41 : ∀ W, (zeroValue 41).run Try.prog W = .ok (.agg #[.int .i64 0, .int .i64 0, .slice none 0 0, .slice none 0 0, .slice none 0 0, .slice none 0 0, .slice none 0 0, .slice none 0 0, .slice none 0 0]) W := zero_of (by kernel_rfl)
theorem zv70 : ∀ W, (zeroValue 70).run Try.prog W = .ok (.agg #[.int .i64 0, .int .i64 0]) W := zero_of (by kernel_rfl)

theorem pk_ok {t : Tb} {k r p : Int} (h : Small t) (ik : I64 k) (ir : I64 r) : Pk.ok (pkAns t k r p (ordF (t.mv.map pkRow)) (ordF (t.go.map goRow))) := by
  have hl := pk_lens (k := k) (r := r) (p := p) h
  have h0 : ∀ x : Int, 0 ≤ x → x ≤ 1099511627776 → I64 x := fun x h1 h2 => ⟨by omega, by omega⟩
  unfold pkAns at hl ⊢
  split at hl
  · rename_i hc
    rw [if_pos hc]
    obtain ⟨_, hg⟩ := checkF_zero hc
    obtain ⟨b1, b2, b3, b4⟩ := h.big hg
    have hgl := hg.2.2.1
    refine ⟨ik, ir, hl.d, hl.b, hl.c, hl.e, hl.gb, hl.gc, hl.ge, fun x hx => ?_, fun x hx => ?_⟩
    · have e1 := stN_nonneg (rows := t.mv.map pkRow) (ord := ordF (t.mv.map pkRow)) _ (Nat.le_refl _) x hx
      have e2 := stN_base_le (M := k.toNat) (fun x hx => ordF_mem hx) (fun x hx => (pm_ok hg x hx).1) _ (Nat.le_refl _) x hx
      rw [ordF_len, List.length_map] at e2
      exact h0 x e1 (by omega)
    · have e1 := stN_nonneg (rows := t.go.map goRow) (ord := ordF (t.go.map goRow)) _ (Nat.le_refl _) x hx
      have e2 := stN_base_le (M := r.toNat) (fun x hx => ordF_mem hx) (fun x hx => (gm_ok hg x hx).1) _ (Nat.le_refl _) x hx
      rw [ordF_len, List.length_map] at e2
      exact h0 x e1 (by omega)
  · rename_i hc
    rw [if_neg hc]
    exact ⟨by unfold I64 pk0; decide, by unfold I64 pk0; decide, by decide, by decide, by decide, by decide, by decide, by decide, by decide, fun x hx => by simp [pk0] at hx, fun x hx => by simp [pk0] at hx⟩
theorem pk_back {t : Tb} {k r p : Int} (hc : checkF t k r p = 0) (hk : k ≤ 1024) (hr : r ≤ 2048) : upErr (pkAns t k r p (ordF (t.mv.map pkRow)) (ordF (t.go.map goRow))) = 0 ∧ upAns (pkAns t k r p (ordF (t.mv.map pkRow)) (ordF (t.go.map goRow))) = dfAns t ∧ dfErr t = 0 := by
  obtain ⟨h1, hg⟩ := checkF_zero hc
  obtain ⟨e1, e2, e3⟩ := back (p := p) (by omega) (by omega) hg hk hr
  rw [pkAns, if_pos hc]
  refine ⟨(up_t e1).2, ?_, (dfAns_t (dec_t e3)).2⟩
  rw [e2, (dfAns_t (dec_t e3)).1]

set_option maxHeartbeats 3200000 in
set_option maxRecDepth 100000 in
theorem tableBack_calls {A B R : Option Addr} {ca cb cr : Nat} {t : Tb} {k r p : Int} {bs : List Int} {w : World} (hx : t.rd w A B) (hs : Small t) (hb : BSm t) (hby : ByOk t → (tbB t).length ≤ 549755813888) (ik : I64 k) (ir : I64 r) (ip : I64 p) (hr : Rd (kInt .u8) w R bs) (hB : Bytes bs) (hl : bs.length ≤ 1048573) (hcap : bs.length ≤ cr) :
    Calls Try.prog 9 #[.agg #[.slice A t.mv.length ca, .slice B t.go.length cb, .int .i64 k, .int .i64 r, .int .i64 p], .slice R bs.length cr] w fun e w' => ∃ v, e = .returned v ∧ v = .bool true ∧ Holds w [] w' := by
  have hok := rdT_ok hB hl
  have hbb : Bytes (bytesA t) := by
    unfold bytesA
    split
    · exact tbB_bytes t
    · exact fun x hx => by simp at hx
  refine calls_of Try.func9 rfl Try.ntmps9 rfl ?_
  have H := Holds.start w
  refine wc_seq ?_
  refine wc_region ?_
  refine wl_box (cs := [_, _, _, _, _]) H rfl rfl rfl ?_
  intro b2 w1 hb2 H2
  refine wl_v rfl rfl rfl (v_assign rfl) ?_
  refine wl_nil ?_
  refine wc_seq ?_
  refine wc_seq ?_
  refine wc_region ?_
  refine wl_call en15 rfl rfl (alive_calls) ?_
  rintro _ w3 ⟨rfl, Hc⟩
  have H4 := H2.call Hc
  refine wl_v rfl rfl rfl (v_not rfl) ?_
  refine wl_nil ?_
  refine wc_cond_f rfl ?_
  refine wc_skip ?_
  refine wc_seq ?_
  refine wc_region ?_
  refine wl_v rfl rfl rfl (v_fb (o2 := 0) fa27_0 rfl rfl) ?_
  refine wl_v rfl rfl rfl (v_loadN (cs := [_, _]) agg25 rfl rfl (H4.atsN (k := 2) (by repeat constructor) rfl)) ?_
  refine wl_v rfl rfl rfl (v_fb (o2 := 2) fa27_1 rfl rfl) ?_
  refine wl_v rfl rfl rfl (v_load one3 rfl (H4.at (by repeat constructor) rfl)) ?_
  refine wl_v rfl rfl rfl (v_fb (o2 := 3) fa27_2 rfl rfl) ?_
  refine wl_v rfl rfl rfl (v_load one3 rfl (H4.at (by repeat constructor) rfl)) ?_
  refine wl_v rfl rfl rfl (v_fb (o2 := 4) fa27_3 rfl rfl) ?_
  refine wl_v rfl rfl rfl (v_load one3 rfl (H4.at (by repeat constructor) rfl)) ?_
  refine wl_call en16 rfl rfl (pack_calls _ _ (hx.below H4.old) hs.ok hs.big4 (sorts hs)) ?_
  rintro _ w5 ⟨a1, rfl, Hc⟩
  have H6 := H4.call Hc
  refine wl_v rfl rfl rfl (v_move rfl) ?_
  refine wl_v rfl rfl rfl (v_extract rfl rfl) ?_
  refine wl_v rfl rfl rfl (v_extract rfl rfl) ?_
  refine wl_alloc (cs := [.int .i64 0, .int .i64 0, .slice none 0 0, .slice none 0 0, .slice none 0 0, .slice none 0 0, .slice none 0 0, .slice none 0 0, .slice none 0 0]) H6 rfl zv41 rfl ?_
  intro b5 w7 hb5 H8
  refine wl_store (vs := [_, _, _, _, _, _, _, _, _]) H8 (by repeat constructor) sz41 rfl rfl rfl rfl rfl (by (repeat constructor)) ?_
  intro w9 H10 hw9
  refine wl_v rfl rfl rfl (v_assign rfl) ?_
  refine wl_nil ?_
  refine wc_cut (σ := Unit) (fun s => [(1, .slice R bs.length cr), (2, .pointer (some ⟨b2, 0, none⟩))]) (fun s W => Holds w [Blk b2 27 [.slice A t.mv.length ca, .slice B t.go.length cb, .int .i64 k, .int .i64 r, .int .i64 p]] W) ?_ ?_
  · refine wc_seq ?_
    refine wc_region ?_
    refine wl_v rfl rfl rfl (v_move rfl) ?_
    refine wl_v rfl rfl rfl (v_eql rfl rfl) ?_
    refine wl_v rfl rfl rfl (v_move rfl) ?_
    refine wl_guard rfl rfl rfl (fun g32 => ?_) (fun g32 => ?_)
    · have g32p := of_decide_eq_true g32
      refine wl_v rfl rfl rfl (v_fb (o2 := 2) fa27_1 rfl rfl) ?_
      refine wl_on' rfl rfl g32 ?_
      refine wl_v rfl rfl rfl (v_load one3 rfl (H10.at (by repeat constructor) rfl)) ?_
      refine wl_on' rfl rfl g32 ?_
      refine wl_v rfl rfl rfl (v_leq rfl rfl) ?_
      refine wl_v rfl rfl rfl (v_pick_t rfl g32 rfl) ?_
      refine wl_v rfl rfl rfl (v_move rfl) ?_
      refine wl_guard rfl rfl rfl (fun g37 => ?_) (fun g37 => ?_)
      · have g37p := of_decide_eq_true g37
        refine wl_v rfl rfl rfl (v_fb (o2 := 3) fa27_2 rfl rfl) ?_
        refine wl_on' rfl rfl g37 ?_
        refine wl_v rfl rfl rfl (v_load one3 rfl (H10.at (by repeat constructor) rfl)) ?_
        refine wl_on' rfl rfl g37 ?_
        refine wl_v rfl rfl rfl (v_leq rfl rfl) ?_
        refine wl_v rfl rfl rfl (v_pick_t rfl g37 rfl) ?_
        refine wl_nil ?_
        refine wc_cond rfl (fun c1 => ?_) (fun c1 => ?_)
        · have c1p := of_decide_eq_true c1
          obtain ⟨hu1, hu2, hu3⟩ := pk_back (p := p) g32p g37p c1p
          refine wc_seq ?_
          refine wc_region ?_
          refine wl_v rfl rfl rfl (v_loadN agg41 rfl rfl (H10.ats (by repeat constructor))) ?_
          refine wl_call en21 rfl rfl (unpack_calls (ownP_rd (a := a1) (p := (pkAns t k r p (ordF (t.mv.map pkRow)) (ordF (t.go.map goRow)))) H10 (by repeat constructor)) (pk_ok hs ik ir)) ?_
          rintro _ w11 ⟨v1, v2, rfl, Hc⟩
          have H12 := H10.call Hc
          obtain ⟨A1, z1, rfl, _⟩ := H12.rr (f := fMv) (e := 38) (e2 := 48) (v := v1) (xss := (upAns (pkAns t k r p (ordF (t.mv.map pkRow)) (ordF (t.go.map goRow)))).mv) (by repeat constructor)
          obtain ⟨A2, z2, rfl, _⟩ := H12.rr (f := fInt .i64) (e := 39) (e2 := 3) (v := v2) (xss := (upAns (pkAns t k r p (ordF (t.mv.map pkRow)) (ordF (t.go.map goRow)))).go) (by repeat constructor)
          refine wl_v rfl rfl rfl (v_move rfl) ?_
          refine wl_v rfl rfl rfl (v_extract rfl rfl) ?_
          refine wl_v rfl rfl rfl (v_extract rfl rfl) ?_
          refine wl_alloc (cs := [.slice none 0 0, .slice none 0 0]) H12 rfl zv25 rfl ?_
          intro b7 w13 hb7 H14
          refine wl_store (vs := [_, _]) H14 (by repeat constructor) sz25 rfl rfl rfl rfl rfl (by (repeat constructor)) ?_
          intro w15 H16 hw15
          refine wl_v rfl rfl rfl (v_assign rfl) ?_
          refine wl_nil ?_
          refine wc_seq ?_
          refine wc_region ?_
          refine wl_v rfl rfl rfl (v_fb (o2 := 0) fa27_0 rfl rfl) ?_
          refine wl_v rfl rfl rfl (v_loadN (cs := [_, _]) agg25 rfl rfl (H16.atsN (k := 2) (by repeat constructor) rfl)) ?_
          refine wl_call en10 rfl rfl (defaults_calls (hx.below H16.old) hs.ok) ?_
          rintro _ w17 ⟨v1, v2, rfl, Hc⟩
          have H18 := H16.call Hc
          obtain ⟨A3, z3, rfl, _⟩ := H18.rr (f := fMv) (e := 38) (e2 := 48) (v := v1) (xss := (dfAns t).mv) (by repeat constructor)
          obtain ⟨A4, z4, rfl, _⟩ := H18.rr (f := fInt .i64) (e := 39) (e2 := 3) (v := v2) (xss := (dfAns t).go) (by repeat constructor)
          refine wl_v rfl rfl rfl (v_move rfl) ?_
          refine wl_v rfl rfl rfl (v_extract rfl rfl) ?_
          refine wl_v rfl rfl rfl (v_extract rfl rfl) ?_
          refine wl_alloc (cs := [.slice none 0 0, .slice none 0 0]) H18 rfl zv25 rfl ?_
          intro b9 w19 hb9 H20
          refine wl_store (vs := [_, _]) H20 (by repeat constructor) sz25 rfl rfl rfl rfl rfl (by (repeat constructor)) ?_
          intro w21 H22 hw21
          refine wl_v rfl rfl rfl (v_assign rfl) ?_
          refine wl_nil ?_
          refine wc_seq ?_
          refine wc_region ?_
          refine wl_v rfl rfl rfl (v_move rfl) ?_
          refine wl_v rfl rfl rfl (v_neq rfl rfl) ?_
          refine wl_v rfl rfl rfl (v_move rfl) ?_
          refine wl_guard rfl rfl rfl (fun g55 => ?_) (fun g55 => ?_)
          · have g55p := of_nd_f g55
            refine wl_v rfl rfl rfl (v_move rfl) ?_
            refine wl_on' rfl rfl g55 ?_
            refine wl_v rfl rfl rfl (v_neq rfl rfl) ?_
            refine wl_v rfl rfl rfl (v_pick_f rfl g55 rfl) ?_
            refine wl_v rfl rfl rfl (v_move rfl) ?_
            refine wl_guard rfl rfl rfl (fun g59 => ?_) (fun g59 => ?_)
            · have g59p := of_nd_f g59
              refine wl_v rfl rfl rfl (v_loadN agg25 rfl rfl (H22.ats (by repeat constructor))) ?_
              refine wl_on' rfl rfl g59 ?_
              refine wl_v rfl rfl rfl (v_loadN agg25 rfl rfl (H22.ats (by repeat constructor))) ?_
              refine wl_on' rfl rfl g59 ?_
              refine wl_call en14 rfl rfl (same_calls ⟨H22.rrR (f := fMv) (e := 38) (e2 := 48) (A := A1) (xss := (upAns (pkAns t k r p (ordF (t.mv.map pkRow)) (ordF (t.go.map goRow)))).mv) (by repeat constructor), H22.rrR (f := fInt .i64) (e := 39) (e2 := 3) (A := A2) (xss := (upAns (pkAns t k r p (ordF (t.mv.map pkRow)) (ordF (t.go.map goRow)))).go) (by repeat constructor)⟩ ⟨H22.rrR (f := fMv) (e := 38) (e2 := 48) (A := A3) (xss := (dfAns t).mv) (by repeat constructor), H22.rrR (f := fInt .i64) (e := 39) (e2 := 3) (A := A4) (xss := (dfAns t).go) (by repeat constructor)⟩ (by rw [hu2]; exact dfAns_ok hs.ok) (dfAns_ok hs.ok)) ?_
              rintro _ w23 ⟨rfl, Hc⟩
              have H24 := H22.call Hc
              refine wl_on' rfl rfl g59 ?_
              refine wl_v rfl rfl rfl (v_not rfl) ?_
              refine wl_v rfl rfl rfl (v_pick_f rfl g59 rfl) ?_
              refine wl_nil ?_
              refine wc_cond rfl (fun c2 => ?_) (fun c2 => ?_)
              · have c2p := of_nd_t c2
                exact absurd hu2 c2p
              · have c2p := of_nd_f c2
                refine wc_skip ?_
                exact ⟨(), (sc rfl (sc rfl (sn _))), H24.pm (by repeat constructor)⟩
            · have g59p := of_nd_t g59
              exact absurd hu3 g59p
          · have g55p := of_nd_t g55
            exact absurd hu1 g55p
        · have c1p := of_decide_eq_false c1
          refine wc_skip ?_
          exact ⟨(), (sc rfl (sc rfl (sn _))), H10.pm (by repeat constructor)⟩
      · have g37p := of_decide_eq_false g37
        refine wl_off rfl rfl g37 rfl ?_
        refine wl_off rfl rfl g37 rfl ?_
        refine wl_v rfl rfl rfl (v_pick_f rfl g37 rfl) ?_
        refine wl_nil ?_
        refine wc_cond_f rfl ?_
        refine wc_skip ?_
        exact ⟨(), (sc rfl (sc rfl (sn _))), H10.pm (by repeat constructor)⟩
    · have g32p := of_decide_eq_false g32
      refine wl_off rfl rfl g32 rfl ?_
      refine wl_off rfl rfl g32 rfl ?_
      refine wl_v rfl rfl rfl (v_pick_f rfl g32 rfl) ?_
      refine wl_v rfl rfl rfl (v_move rfl) ?_
      refine wl_off rfl rfl rfl rfl ?_
      refine wl_off rfl rfl rfl rfl ?_
      refine wl_off rfl rfl rfl rfl ?_
      refine wl_v rfl rfl rfl (v_pick_f rfl rfl rfl) ?_
      refine wl_nil ?_
      refine wc_cond_f rfl ?_
      refine wc_skip ?_
      exact ⟨(), (sc rfl (sc rfl (sn _))), H10.pm (by repeat constructor)⟩
  · rintro _ Wm H
    refine wc_seq ?_
    refine wc_region ?_
    refine wl_v rfl rfl rfl (v_fb (o2 := 0) fa27_0 rfl rfl) ?_
    refine wl_v rfl rfl rfl (v_loadN (cs := [_, _]) agg25 rfl rfl (H.atsN (k := 2) (by repeat constructor) rfl)) ?_
    refine wl_call en27 rfl rfl (bytes_calls (hx.below H.old) hb) ?_
    rintro _ w25 ⟨A68, z68, rfl, Hc⟩
    have H26 := H.call Hc
    refine wl_v rfl rfl rfl (v_move rfl) ?_
    refine wl_v rfl rfl rfl (v_extract rfl rfl) ?_
    refine wl_v rfl rfl rfl (v_extract rfl rfl) ?_
    refine wl_v rfl rfl rfl (v_assign rfl) ?_
    refine wl_v rfl rfl rfl (v_assign rfl) ?_
    refine wl_nil ?_
    refine wc_seq ?_
    refine wc_seq ?_
    refine wc_region ?_
    refine wl_v rfl rfl rfl (v_move rfl) ?_
    refine wl_v rfl rfl rfl (v_eql rfl rfl) ?_
    refine wl_nil ?_
    refine wc_cond rfl (fun c3 => ?_) (fun c3 => ?_)
    · have c3p := of_decide_eq_true c3
      have hgood : ByOk t := by
        rcases Classical.em (ByOk t) with h | h
        · exact h
        · have := (by_f h).2
          omega
      have hba := (by_t hgood).1
      have hlen : (bytesA t).length ≤ 549755813888 := by rw [hba]; exact hby hgood
      have hrp : readP (bytesA t) = some t := by rw [hba]; exact readP_of hb hgood
      obtain ⟨hr1, hr2⟩ := rd_some hrp
      refine wc_seq ?_
      refine wc_region ?_
      refine wl_v rfl rfl rfl (v_move rfl) ?_
      refine wl_call en29 rfl rfl (read_calls (H26.rrd (f := fInt .u8) (e := 5) (A := A68) (xs := bytesA t) (by repeat constructor)) hbb hlen (H26.rcap (f := fInt .u8) (e := 5) (A := A68) (xs := bytesA t) (by repeat constructor))) ?_
      rintro _ w27 ⟨v1, v2, rfl, Hc⟩
      have H28 := H26.call Hc
      obtain ⟨A5, z5, rfl, _⟩ := H28.rr (f := fMv) (e := 38) (e2 := 48) (v := v1) (xss := (rdT (bytesA t)).mv) (by repeat constructor)
      obtain ⟨A6, z6, rfl, _⟩ := H28.rr (f := fInt .i64) (e := 39) (e2 := 3) (v := v2) (xss := (rdT (bytesA t)).go) (by repeat constructor)
      refine wl_v rfl rfl rfl (v_move rfl) ?_
      refine wl_v rfl rfl rfl (v_extract rfl rfl) ?_
      refine wl_v rfl rfl rfl (v_extract rfl rfl) ?_
      refine wl_alloc (cs := [.slice none 0 0, .slice none 0 0]) H28 rfl zv25 rfl ?_
      intro b12 w29 hb12 H30
      refine wl_alloc (cs := [.int .i64 0, .int .i64 0]) H30 rfl zv70 rfl ?_
      intro b13 w31 hb13 H32
      refine wl_store (vs := [_, _]) H32 (by repeat constructor) sz25 rfl rfl rfl rfl rfl (by (repeat constructor)) ?_
      intro w33 H34 hw33
      refine wl_store (vs := [_, _]) H34 (by repeat constructor) sz70 rfl rfl rfl rfl rfl (by (repeat constructor)) ?_
      intro w35 H36 hw35
      refine wl_nil ?_
      refine wc_seq ?_
      refine wc_region ?_
      refine wl_v rfl rfl rfl (v_loadN agg70 rfl rfl (H36.ats (by repeat constructor))) ?_
      refine wl_v rfl rfl rfl (v_bld ba70 rfl (by repeat constructor)) ?_
      refine wl_v rfl rfl rfl (v_neqm (a := ⟨rdE (bytesA t), 0⟩) (b := ⟨0, 0⟩) eqm70 rfl rfl) ?_
      refine wl_v rfl rfl rfl (v_move rfl) ?_
      refine wl_guard rfl rfl rfl (fun g81 => ?_) (fun g81 => ?_)
      · have g81p := of_nd_f g81
        refine wl_v rfl rfl rfl (v_loadN agg25 rfl rfl (H36.ats (by repeat constructor))) ?_
        refine wl_on' rfl rfl g81 ?_
        refine wl_v rfl rfl rfl (v_fb (o2 := 0) fa27_0 rfl rfl) ?_
        refine wl_on' rfl rfl g81 ?_
        refine wl_v rfl rfl rfl (v_loadN (cs := [_, _]) agg25 rfl rfl (H36.atsN (k := 2) (by repeat constructor) rfl)) ?_
        refine wl_on' rfl rfl g81 ?_
        refine wl_call en14 rfl rfl (same_calls ⟨H36.rrR (f := fMv) (e := 38) (e2 := 48) (A := A5) (xss := (rdT (bytesA t)).mv) (by repeat constructor), H36.rrR (f := fInt .i64) (e := 39) (e2 := 3) (A := A6) (xss := (rdT (bytesA t)).go) (by repeat constructor)⟩ (hx.below H36.old) (by rw [hr1]; exact hs.ok) hs.ok) ?_
        rintro _ w37 ⟨rfl, Hc⟩
        have H38 := H36.call Hc
        refine wl_on' rfl rfl g81 ?_
        refine wl_v rfl rfl rfl (v_not rfl) ?_
        refine wl_v rfl rfl rfl (v_pick_f rfl g81 rfl) ?_
        refine wl_nil ?_
        refine wc_cond rfl (fun c4 => ?_) (fun c4 => ?_)
        · have c4p := of_nd_t c4
          exact absurd hr1 c4p
        · have c4p := of_nd_f c4
          refine wc_skip ?_
          refine wc_seq ?_
          refine wc_region ?_
          refine wl_v rfl rfl rfl (v_move rfl) ?_
          refine wl_call en29 rfl rfl (read_calls (hr.below H38.old) hB (by omega) hcap) ?_
          rintro _ w39 ⟨v1, v2, rfl, Hc⟩
          have H40 := H38.call Hc
          obtain ⟨A7, z7, rfl, _⟩ := H40.rr (f := fMv) (e := 38) (e2 := 48) (v := v1) (xss := (rdT bs).mv) (by repeat constructor)
          obtain ⟨A8, z8, rfl, _⟩ := H40.rr (f := fInt .i64) (e := 39) (e2 := 3) (v := v2) (xss := (rdT bs).go) (by repeat constructor)
          refine wl_v rfl rfl rfl (v_move rfl) ?_
          refine wl_v rfl rfl rfl (v_extract rfl rfl) ?_
          refine wl_v rfl rfl rfl (v_extract rfl rfl) ?_
          refine wl_alloc (cs := [.slice none 0 0, .slice none 0 0]) H40 rfl zv25 rfl ?_
          intro b14 w41 hb14 H42
          refine wl_alloc (cs := [.int .i64 0, .int .i64 0]) H42 rfl zv70 rfl ?_
          intro b15 w43 hb15 H44
          refine wl_store (vs := [_, _]) H44 (by repeat constructor) sz25 rfl rfl rfl rfl rfl (by (repeat constructor)) ?_
          intro w45 H46 hw45
          refine wl_store (vs := [_, _]) H46 (by repeat constructor) sz70 rfl rfl rfl rfl rfl (by (repeat constructor)) ?_
          intro w47 H48 hw47
          refine wl_nil ?_
          refine wc_seq ?_
          refine wc_seq ?_
          refine wc_region ?_
          refine wl_v rfl rfl rfl (v_loadN agg70 rfl rfl (H48.ats (by repeat constructor))) ?_
          refine wl_v rfl rfl rfl (v_bld ba70 rfl (by repeat constructor)) ?_
          refine wl_v rfl rfl rfl (v_neqm (a := ⟨rdE bs, 0⟩) (b := ⟨0, 0⟩) eqm70 rfl rfl) ?_
          refine wl_nil ?_
          refine wc_cond rfl (fun c5 => ?_) (fun c5 => ?_)
          · have c5p := of_nd_t c5
            have hno : readP bs = none := by
              cases h : readP bs with
              | none => rfl
              | some t2 => exact absurd (by rw [(rd_some h).2]) c5p
            have hz := (rd_none hno).1
            refine wc_seq ?_
            refine wc_region ?_
            refine wl_v rfl rfl rfl (v_fb (o2 := 0) fa25_0 rfl rfl) ?_
            refine wl_v rfl rfl rfl (v_load one22 rfl (H48.at (by repeat constructor) rfl)) ?_
            refine wl_v rfl rfl rfl (v_len Try.underlying22 rfl) ?_
            refine wl_v rfl rfl rfl (v_eql rfl rfl) ?_
            refine wl_v rfl rfl rfl (v_assign rfl) ?_
            refine wl_nil ?_
            refine wc_ret ?_
            first
              | exact ⟨_, res1 rfl rfl, congrArg Value.bool (decide_eq_true (by rw [hz]; rfl)), H48.pm (Pm.nil _)⟩
              | exact ⟨_, res1 rfl rfl, congrArg Value.bool (decide_eq_true hr4), H48.pm (Pm.nil _)⟩
          · have c5p := of_nd_f c5
            obtain ⟨t2, hrd⟩ : ∃ t2, readP bs = some t2 := by
              cases h : readP bs with
              | none =>
                rw [(rd_none h).2] at c5p
                exact absurd c5p (by decide)
              | some t2 => exact ⟨t2, rfl⟩
            obtain ⟨hr5, hr6⟩ := readP_some hB hrd
            have hr7 := (rd_some hrd).1
            have hr4 : bytesA (rdT bs) = bs := by rw [hr7, (by_t hr5).1, hr6]
            have hr8 : bytesE (rdT bs) = 0 := by rw [hr7, (by_t hr5).2]
            have hr9 : BSm (rdT bs) := by rw [hr7]; exact rdT_bsm hB hl hrd
            refine wc_skip ?_
            refine wc_seq ?_
            refine wc_region ?_
            refine wl_v rfl rfl rfl (v_loadN agg25 rfl rfl (H48.ats (by repeat constructor))) ?_
            refine wl_call en27 rfl rfl (bytes_calls ⟨H48.rrR (f := fMv) (e := 38) (e2 := 48) (A := A7) (xss := (rdT bs).mv) (by repeat constructor), H48.rrR (f := fInt .i64) (e := 39) (e2 := 3) (A := A8) (xss := (rdT bs).go) (by repeat constructor)⟩ hr9) ?_
            rintro _ w49 ⟨A102, z102, rfl, Hc⟩
            have H50 := H48.call Hc
            refine wl_v rfl rfl rfl (v_move rfl) ?_
            refine wl_v rfl rfl rfl (v_extract rfl rfl) ?_
            refine wl_v rfl rfl rfl (v_extract rfl rfl) ?_
            refine wl_v rfl rfl rfl (v_assign rfl) ?_
            refine wl_v rfl rfl rfl (v_assign rfl) ?_
            refine wl_nil ?_
            refine wc_seq ?_
            refine wc_region ?_
            refine wl_v rfl rfl rfl (v_move rfl) ?_
            refine wl_v rfl rfl rfl (v_eql rfl rfl) ?_
            refine wl_v rfl rfl rfl (v_move rfl) ?_
            refine wl_guard rfl rfl rfl (fun g107 => ?_) (fun g107 => ?_)
            · have g107p := of_decide_eq_true g107
              refine wl_v rfl rfl rfl (v_move rfl) ?_
              refine wl_on' rfl rfl g107 ?_
              refine wl_v rfl rfl rfl (v_move rfl) ?_
              refine wl_on' rfl rfl g107 ?_
              refine wl_call en31 rfl rfl (equal_calls (H50.rrd (f := fInt .u8) (e := 5) (A := A102) (xs := bytesA (rdT bs)) (by repeat constructor)) (hr.below H50.old) (by rw [hr4]; exact hB) hB) ?_
              rintro _ w51 ⟨rfl, Hc⟩
              have H52 := H50.call Hc
              refine wl_v rfl rfl rfl (v_pick_t rfl g107 rfl) ?_
              refine wl_v rfl rfl rfl (v_assign rfl) ?_
              refine wl_nil ?_
              refine wc_ret ?_
              first
                | exact ⟨_, res1 rfl rfl, congrArg Value.bool (decide_eq_true (by rw [hz]; rfl)), H52.pm (Pm.nil _)⟩
                | exact ⟨_, res1 rfl rfl, congrArg Value.bool (decide_eq_true hr4), H52.pm (Pm.nil _)⟩
            · have g107p := of_decide_eq_false g107
              exact absurd hr8 g107p
      · have g81p := of_nd_t g81
        exact absurd (by rw [hr2]) g81p
    · have c3p := of_decide_eq_false c3
      refine wc_skip ?_
      refine wc_seq ?_
      refine wc_region ?_
      refine wl_v rfl rfl rfl (v_move rfl) ?_
      refine wl_call en29 rfl rfl (read_calls (hr.below H26.old) hB (by omega) hcap) ?_
      rintro _ w53 ⟨v1, v2, rfl, Hc⟩
      have H54 := H26.call Hc
      obtain ⟨A7, z7, rfl, _⟩ := H54.rr (f := fMv) (e := 38) (e2 := 48) (v := v1) (xss := (rdT bs).mv) (by repeat constructor)
      obtain ⟨A8, z8, rfl, _⟩ := H54.rr (f := fInt .i64) (e := 39) (e2 := 3) (v := v2) (xss := (rdT bs).go) (by repeat constructor)
      refine wl_v rfl rfl rfl (v_move rfl) ?_
      refine wl_v rfl rfl rfl (v_extract rfl rfl) ?_
      refine wl_v rfl rfl rfl (v_extract rfl rfl) ?_
      refine wl_alloc (cs := [.slice none 0 0, .slice none 0 0]) H54 rfl zv25 rfl ?_
      intro b14 w55 hb14 H56
      refine wl_alloc (cs := [.int .i64 0, .int .i64 0]) H56 rfl zv70 rfl ?_
      intro b15 w57 hb15 H58
      refine wl_store (vs := [_, _]) H58 (by repeat constructor) sz25 rfl rfl rfl rfl rfl (by (repeat constructor)) ?_
      intro w59 H60 hw59
      refine wl_store (vs := [_, _]) H60 (by repeat constructor) sz70 rfl rfl rfl rfl rfl (by (repeat constructor)) ?_
      intro w61 H62 hw61
      refine wl_nil ?_
      refine wc_seq ?_
      refine wc_seq ?_
      refine wc_region ?_
      refine wl_v rfl rfl rfl (v_loadN agg70 rfl rfl (H62.ats (by repeat constructor))) ?_
      refine wl_v rfl rfl rfl (v_bld ba70 rfl (by repeat constructor)) ?_
      refine wl_v rfl rfl rfl (v_neqm (a := ⟨rdE bs, 0⟩) (b := ⟨0, 0⟩) eqm70 rfl rfl) ?_
      refine wl_nil ?_
      refine wc_cond rfl (fun c5 => ?_) (fun c5 => ?_)
      · have c5p := of_nd_t c5
        have hno : readP bs = none := by
          cases h : readP bs with
          | none => rfl
          | some t2 => exact absurd (by rw [(rd_some h).2]) c5p
        have hz := (rd_none hno).1
        refine wc_seq ?_
        refine wc_region ?_
        refine wl_v rfl rfl rfl (v_fb (o2 := 0) fa25_0 rfl rfl) ?_
        refine wl_v rfl rfl rfl (v_load one22 rfl (H62.at (by repeat constructor) rfl)) ?_
        refine wl_v rfl rfl rfl (v_len Try.underlying22 rfl) ?_
        refine wl_v rfl rfl rfl (v_eql rfl rfl) ?_
        refine wl_v rfl rfl rfl (v_assign rfl) ?_
        refine wl_nil ?_
        refine wc_ret ?_
        first
          | exact ⟨_, res1 rfl rfl, congrArg Value.bool (decide_eq_true (by rw [hz]; rfl)), H62.pm (Pm.nil _)⟩
          | exact ⟨_, res1 rfl rfl, congrArg Value.bool (decide_eq_true hr4), H62.pm (Pm.nil _)⟩
      · have c5p := of_nd_f c5
        obtain ⟨t2, hrd⟩ : ∃ t2, readP bs = some t2 := by
          cases h : readP bs with
          | none =>
            rw [(rd_none h).2] at c5p
            exact absurd c5p (by decide)
          | some t2 => exact ⟨t2, rfl⟩
        obtain ⟨hr5, hr6⟩ := readP_some hB hrd
        have hr7 := (rd_some hrd).1
        have hr4 : bytesA (rdT bs) = bs := by rw [hr7, (by_t hr5).1, hr6]
        have hr8 : bytesE (rdT bs) = 0 := by rw [hr7, (by_t hr5).2]
        have hr9 : BSm (rdT bs) := by rw [hr7]; exact rdT_bsm hB hl hrd
        refine wc_skip ?_
        refine wc_seq ?_
        refine wc_region ?_
        refine wl_v rfl rfl rfl (v_loadN agg25 rfl rfl (H62.ats (by repeat constructor))) ?_
        refine wl_call en27 rfl rfl (bytes_calls ⟨H62.rrR (f := fMv) (e := 38) (e2 := 48) (A := A7) (xss := (rdT bs).mv) (by repeat constructor), H62.rrR (f := fInt .i64) (e := 39) (e2 := 3) (A := A8) (xss := (rdT bs).go) (by repeat constructor)⟩ hr9) ?_
        rintro _ w63 ⟨A102, z102, rfl, Hc⟩
        have H64 := H62.call Hc
        refine wl_v rfl rfl rfl (v_move rfl) ?_
        refine wl_v rfl rfl rfl (v_extract rfl rfl) ?_
        refine wl_v rfl rfl rfl (v_extract rfl rfl) ?_
        refine wl_v rfl rfl rfl (v_assign rfl) ?_
        refine wl_v rfl rfl rfl (v_assign rfl) ?_
        refine wl_nil ?_
        refine wc_seq ?_
        refine wc_region ?_
        refine wl_v rfl rfl rfl (v_move rfl) ?_
        refine wl_v rfl rfl rfl (v_eql rfl rfl) ?_
        refine wl_v rfl rfl rfl (v_move rfl) ?_
        refine wl_guard rfl rfl rfl (fun g107 => ?_) (fun g107 => ?_)
        · have g107p := of_decide_eq_true g107
          refine wl_v rfl rfl rfl (v_move rfl) ?_
          refine wl_on' rfl rfl g107 ?_
          refine wl_v rfl rfl rfl (v_move rfl) ?_
          refine wl_on' rfl rfl g107 ?_
          refine wl_call en31 rfl rfl (equal_calls (H64.rrd (f := fInt .u8) (e := 5) (A := A102) (xs := bytesA (rdT bs)) (by repeat constructor)) (hr.below H64.old) (by rw [hr4]; exact hB) hB) ?_
          rintro _ w65 ⟨rfl, Hc⟩
          have H66 := H64.call Hc
          refine wl_v rfl rfl rfl (v_pick_t rfl g107 rfl) ?_
          refine wl_v rfl rfl rfl (v_assign rfl) ?_
          refine wl_nil ?_
          refine wc_ret ?_
          first
            | exact ⟨_, res1 rfl rfl, congrArg Value.bool (decide_eq_true (by rw [hz]; rfl)), H66.pm (Pm.nil _)⟩
            | exact ⟨_, res1 rfl rfl, congrArg Value.bool (decide_eq_true hr4), H66.pm (Pm.nil _)⟩
        · have g107p := of_decide_eq_false g107
          exact absurd hr8 g107p
end Go.Proofs.Ytkpehkadammppaa.TBack

/-! What came in, as it reads. -/
namespace Go.Proofs.YtkpehkadammppaaFx
open Go Go.RowKit Go.ChangeShapes Go.WideShapes Go.ChangeAt Go.Deep
open Go.Proofs.Ytkpehkadammppaa (Rows.uptoBulk Rows.uptoBulkAll Rows.uptoSmall)
theorem bulk_one {H : Type} (d : DataW H) : 1 ≤ Rows.uptoBulk d := by
  cases d with
  | lit l => cases l <;> simp [Rows.uptoBulk]
  | nil => simp [Rows.uptoBulk]
  | ptr d => simp [Rows.uptoBulk]
  | slice elems spare => simp [Rows.uptoBulk]
  | agg parts => simp [Rows.uptoBulk]
  | iface t d => simp [Rows.uptoBulk]
  | map entries => simp [Rows.uptoBulk]
  | held h => simp [Rows.uptoBulk]
theorem bulk_part {H : Type} {d : DataW H} {l : List (DataW H)} (h : d ∈ l) : Rows.uptoBulk d ≤ Rows.uptoBulkAll l := by
  induction l with
  | nil => cases h
  | cons x r ih =>
    simp only [Rows.uptoBulkAll]
    cases List.mem_cons.1 h with
    | inl e => subst e; omega
    | inr e => have := ih e; omega
theorem bulk_len {H : Type} (l : List (DataW H)) : l.length ≤ Rows.uptoBulkAll l := by
  induction l with
  | nil => simp [Rows.uptoBulkAll]
  | cons x r ih => have := bulk_one x; simp only [Rows.uptoBulkAll, List.length_cons]; omega
/-- A kind of elements that a type reads as; B: what is so of an element of such a bulk. -/
structure Rds (P : Program) (t : TypeId) {α : Type} (K : Kn α) (B : α → Nat → Prop) : Prop where
  sz : P.cellsOf t = K.sz
  rd : ∀ {H : Type} {enc : TypeId × Value → H} {w : World} {base : Nat} {spare : Nat → Bool} {held : Bool} {fuel : Nat} {cs : List Value} {x : DataW H × List MemPlace}, DataW.trod enc P w base spare held fuel t cs = some x → ∃ a, K.K w a cs ∧ B a (Rows.uptoBulk x.1)
section
variable {P : Program} {t e : TypeId} {k : IntKind}
theorem rds_int (ht : P.underlying t = some (.int k)) (hc : P.cellsOf t = 1) : Rds P t (kInt k) (fun a n => (Lit.int k a).wf = true ∧ 1 ≤ n) := ⟨hc, fun h => by
  obtain ⟨n, rfl, rfl, hw⟩ := DataW.trod_int ht h
  exact ⟨n, rfl, hw, bulk_one _⟩⟩
theorem rds_str (ht : P.underlying t = some .string) (hc : P.cellsOf t = 1) : Rds P t kStr (fun a n => a.size + 1 ≤ n) := ⟨hc, fun h => by
  obtain ⟨s, rfl, rfl, hw⟩ := DataW.trod_string ht h
  refine ⟨s, rfl, ?_⟩
  simp only [Rows.uptoBulk, Array.length_toList]
  exact Nat.le_refl _⟩
theorem i64_wf {a : Int} (h : (Lit.int .i64 a).wf = true) : I64 a := by
  have e1 : (if IntKind.i64.signed = true then -(2 ^ (IntKind.i64.bits - 1) : Int) else 0) = -9223372036854775808 := rfl
  have h1 : -9223372036854775808 ≤ a ∧ a ≤ 9223372036854775807 := by simpa [Lit.wf, IntKind.min, e1] using h
  exact h1
theorem two_len {cs : List Value} (h : cs.length = 2) : ∃ a b, cs = [a, b] := by
  match cs, h with
  | [a, b], _ => exact ⟨a, b, rfl⟩
theorem rds_mv {f0 f1 : Field} (ht : P.underlying t = some (.struct #[f0, f1])) (he : P.underlying e = some (.int .i64)) (hc : P.cellsOf t = 2) (hce : P.cellsOf e = 1) (h0 : (f0.type, f0.offset) = (e, 0)) (h1 : (f1.type, f1.offset) = (e, 1)) : Rds P t fMv.kn (fun a n => (I64 a.d ∧ I64 a.n) ∧ 1 ≤ n) := ⟨hc, fun {H enc w base spare held fuel cs x} h => by
  simp only [Prod.mk.injEq] at h0 h1
  obtain ⟨y0, y1, n, rfl, hl, e0, e1⟩ := trod_struct2 ht h
  rw [h0.1, h0.2, hce] at e0
  rw [h1.1, h1.2, hce] at e1
  obtain ⟨a, ha, _, wa⟩ := DataW.trod_int he e0
  obtain ⟨b, hb, _, wb⟩ := DataW.trod_int he e1
  rw [hc] at hl
  obtain ⟨c0, c1, rfl⟩ := two_len hl
  · simp at ha hb
    subst ha hb
    exact ⟨⟨a, b⟩, rfl, ⟨i64_wf wa, i64_wf wb⟩, bulk_one _⟩⟩
theorem rds_sl {α : Type} {K : Kn α} {B : α → Nat → Prop} (ht : P.underlying t = some (.slice e)) (hc : P.cellsOf t = 1) (he : Rds P e K B) : Rds P t K.sl (fun xs n => xs.length + 1 ≤ n ∧ ∀ x ∈ xs, ∃ m, m ≤ n ∧ B x m) := ⟨hc, fun {H enc w base spare held fuel cs x} h => by
  rcases open_slice ht h with ⟨rfl, rfl⟩ | ⟨a, len, cap, m, n, D, Pl, rfl, _, hl, hm, hmm, rfl, hx⟩
  · exact ⟨[], ⟨none, 0, rfl, Nat.le_refl _, Rd.nil _ _ _⟩, by simp [Rows.uptoBulk], fun x hx => by simp at hx⟩
  · have hlm : len ≤ m := by rw [hmm]; split <;> omega
    have hex : ∀ i, i < len → ∃ a' : α, (∃ cs', w.cells? base (a.add (i * P.cellsOf e)) (P.cellsOf e) = some cs' ∧ K.K w a' cs') ∧ B a' (Rows.uptoBulk (D i)) := fun i hi => by
      obtain ⟨cs', h1, h2⟩ := hx i (by omega)
      obtain ⟨a', h3, h4⟩ := he.rd h2
      exact ⟨a', ⟨cs', h1, h3⟩, h4⟩
    refine ⟨List.ofFn fun i : Fin len => Classical.choose (hex i.1 i.2), ⟨some a, cap, by rw [List.length_ofFn], by rw [List.length_ofFn]; exact hl, fun _ => rfl, fun j y hy => ?_⟩, ?_, fun y hy => ?_⟩
    · rw [List.getElem?_ofFn] at hy
      split at hy
      · rename_i hj
        simp only [Option.some.injEq] at hy
        subst hy
        obtain ⟨⟨cs', h1, h2⟩, _⟩ := Classical.choose_spec (hex j hj)
        refine ⟨cs', h2, fun i u hu => ?_⟩
        obtain ⟨_, h5, h6⟩ := World.cells?_some h1
        have hi : i < P.cellsOf e := by rw [← h5]; exact (List.getElem?_eq_some_iff.1 hu).1
        have := h6 i hi
        rw [hu, add_add, he.sz] at this
        exact this
      · simp at hy
    · rw [List.length_ofFn]
      have h1 := bulk_len ((List.range len).map D)
      rw [List.length_map, List.length_range] at h1
      simp only [Rows.uptoBulk]
      omega
    · obtain ⟨i, hi⟩ := (List.mem_ofFn ..).1 hy
      subst hi
      refine ⟨Rows.uptoBulk (D i.1), ?_, (Classical.choose_spec (hex i.1 i.2)).2⟩
      have h1 := bulk_part (d := D i.1) (l := (List.range len).map D) (List.mem_map.2 ⟨i.1, List.mem_range.2 i.2, rfl⟩)
      simp only [Rows.uptoBulk]
      omega⟩
/-- A table. -/
def kTb : Kn Tb where
  sz := 2
  K := fun w t cs => ∃ A B ca cb, cs = [.slice A t.mv.length ca, .slice B t.go.length cb] ∧ t.rd w A B
  len := fun ⟨_, _, _, _, h, _⟩ => by rw [h]; rfl
  one := fun ⟨_, _, _, _, h, _⟩ u hu => by
    rw [h] at hu
    simp only [List.mem_cons, List.not_mem_nil, or_false] at hu
    rcases hu with rfl | rfl <;> rfl
  st := fun hb ⟨A, B, ca, cb, h, hr⟩ => ⟨A, B, ca, cb, h, hr.below hb⟩
theorem rds_tb {f0 f1 : Field} {t0 t1 : TypeId} (ht : P.underlying t = some (.struct #[f0, f1])) (hc : P.cellsOf t = 2) (h0 : (f0.type, f0.offset) = (t0, 0)) (h1 : (f1.type, f1.offset) = (t1, 1))
    {B0 B1 : _} (r0 : Rds P t0 fMv.kn.sl.sl B0) (r1 : Rds P t1 (kInt .i64).sl.sl B1) : Rds P t kTb (fun a n => ∃ n0 n1, n0 + n1 ≤ n ∧ B0 a.mv n0 ∧ B1 a.go n1) := ⟨hc, fun {H enc w base spare held fuel cs x} h => by
  simp only [Prod.mk.injEq] at h0 h1
  obtain ⟨y0, y1, n, rfl, hl, e0, e1⟩ := trod_struct2 ht h
  rw [h0.1, h0.2] at e0
  rw [h1.1, h1.2] at e1
  have s0 : P.cellsOf t0 = 1 := r0.sz
  have s1 : P.cellsOf t1 = 1 := r1.sz
  rw [s0] at e0
  rw [s1] at e1
  obtain ⟨mv, ⟨A, ca, ha, _, hra⟩, b0⟩ := r0.rd e0
  obtain ⟨go, ⟨B, cb, hb, _, hrb⟩, b1⟩ := r1.rd e1
  rw [hc] at hl
  obtain ⟨c0, c1, rfl⟩ := two_len hl
  · simp at ha hb
    subst ha hb
    exact ⟨⟨mv, go⟩, ⟨A, B, ca, cb, rfl, hra, hrb⟩, _, _, by simp only [Rows.uptoBulk, Rows.uptoBulkAll]; omega, b0, b1⟩⟩
def BRow (K : List Mv → Nat → Prop) : Prop := True
abbrev BMv (xs : List Mv) (n : Nat) : Prop := xs.length + 1 ≤ n ∧ ∀ x ∈ xs, ∃ m, m ≤ n ∧ (I64 x.d ∧ I64 x.n) ∧ 1 ≤ m
abbrev BInt (xs : List Int) (n : Nat) : Prop := xs.length + 1 ≤ n ∧ ∀ x ∈ xs, ∃ m, m ≤ n ∧ (Lit.int .i64 x).wf = true ∧ 1 ≤ m
theorem tb_ok {a : Tb} {n0 n1 : Nat} (h0 : a.mv.length + 1 ≤ n0 ∧ ∀ x ∈ a.mv, ∃ m, m ≤ n0 ∧ BMv x m) (h1 : a.go.length + 1 ≤ n1 ∧ ∀ x ∈ a.go, ∃ m, m ≤ n1 ∧ BInt x m) (hn : n0 + n1 ≤ 1048576) : a.ok :=
  ⟨by omega, by omega, fun r hr => by
    obtain ⟨m, hm, h2, h3⟩ := h0.2 r hr
    exact ⟨by omega, fun x hx => by obtain ⟨_, _, h4, _⟩ := h3 x hx; exact h4⟩, fun r hr => by
    obtain ⟨m, hm, h2, h3⟩ := h1.2 r hr
    exact ⟨by omega, fun x hx => by obtain ⟨_, _, h4, _⟩ := h3 x hx; exact i64_wf h4⟩⟩
end
end Go.Proofs.YtkpehkadammppaaFx

/-! What came in, its rows' lengths together. -/
namespace Go.Proofs.YtkpehkadammppaaFx
open Go Go.RowKit Go.ChangeShapes Go.WideShapes Go.ChangeAt Go.Deep
open Go.Proofs.Ytkpehkadammppaa (Rows.uptoBulk Rows.uptoBulkAll Rows.uptoSmall)
theorem sum_le : ∀ {l1 l2 : List Nat}, l1.length = l2.length → (∀ j (h1 : j < l1.length) (h2 : j < l2.length), l1[j] ≤ l2[j]) → l1.sum ≤ l2.sum
  | [], [], _, _ => Nat.le_refl _
  | [], _ :: _, h, _ => by simp at h
  | _ :: _, [], h, _ => by simp at h
  | a :: l1, b :: l2, h, hj => by
    rw [List.sum_cons, List.sum_cons]
    have h0 := hj 0 (by simp) (by simp)
    have ih := sum_le (l1 := l1) (l2 := l2) (by simpa using h) fun j h1 h2 => by
      have := hj (j + 1) (by simp; exact h1) (by simp; exact h2)
      simpa using this
    simp only [List.getElem_cons_zero] at h0
    omega
theorem bulk_sum {H : Type} : ∀ l : List (DataW H), Rows.uptoBulkAll l = (l.map Rows.uptoBulk).sum
  | [] => rfl
  | x :: r => by rw [Rows.uptoBulkAll, bulk_sum r, List.map_cons, List.sum_cons]
section
variable {P : Program} {t e : TypeId}
theorem rds_slS {α : Type} {K : Kn α} {B : α → Nat → Prop} (μ : α → Nat) (hμ : ∀ a n, B a n → μ a ≤ n) (ht : P.underlying t = some (.slice e)) (hc : P.cellsOf t = 1) (he : Rds P e K B) : Rds P t K.sl (fun xs n => ((xs.map μ).sum + 1 ≤ n ∧ xs.length + 1 ≤ n) ∧ ∀ x ∈ xs, ∃ m, m ≤ n ∧ B x m) := ⟨hc, fun {H enc w base spare held fuel cs x} h => by
  rcases open_slice ht h with ⟨rfl, rfl⟩ | ⟨a, len, cap, m, n, D, Pl, rfl, _, hl, hm, hmm, rfl, hx⟩
  · exact ⟨[], ⟨none, 0, rfl, Nat.le_refl _, Rd.nil _ _ _⟩, by simp [Rows.uptoBulk], fun x hx => by simp at hx⟩
  · have hlm : len ≤ m := by rw [hmm]; split <;> omega
    have hex : ∀ i, i < len → ∃ a' : α, (∃ cs', w.cells? base (a.add (i * P.cellsOf e)) (P.cellsOf e) = some cs' ∧ K.K w a' cs') ∧ B a' (Rows.uptoBulk (D i)) := fun i hi => by
      obtain ⟨cs', h1, h2⟩ := hx i (by omega)
      obtain ⟨a', h3, h4⟩ := he.rd h2
      exact ⟨a', ⟨cs', h1, h3⟩, h4⟩
    refine ⟨List.ofFn fun i : Fin len => Classical.choose (hex i.1 i.2), ⟨some a, cap, by rw [List.length_ofFn], by rw [List.length_ofFn]; exact hl, fun _ => rfl, fun j y hy => ?_⟩, ⟨?_, ?_⟩, fun y hy => ?_⟩
    · rw [List.getElem?_ofFn] at hy
      split at hy
      · rename_i hj
        simp only [Option.some.injEq] at hy
        subst hy
        obtain ⟨⟨cs', h1, h2⟩, _⟩ := Classical.choose_spec (hex j hj)
        refine ⟨cs', h2, fun i u hu => ?_⟩
        obtain ⟨_, h5, h6⟩ := World.cells?_some h1
        have hi : i < P.cellsOf e := by rw [← h5]; exact (List.getElem?_eq_some_iff.1 hu).1
        have := h6 i hi
        rw [hu, add_add, he.sz] at this
        exact this
      · simp at hy
    · have h1 : ((List.ofFn fun i : Fin len => Classical.choose (hex i.1 i.2)).map μ).sum ≤ (((List.range len).map D).map Rows.uptoBulk).sum := sum_le (by simp) fun j h1 h2 => by
        simp only [List.getElem_map, List.getElem_ofFn, List.getElem_range]
        have hj : j < len := by simpa using h1
        exact hμ _ _ (Classical.choose_spec (hex j hj)).2
      rw [← bulk_sum] at h1
      simp only [Rows.uptoBulk]
      omega
    · rw [List.length_ofFn]
      have h1 := bulk_len ((List.range len).map D)
      rw [List.length_map, List.length_range] at h1
      simp only [Rows.uptoBulk]
      omega
    · obtain ⟨i, hi⟩ := (List.mem_ofFn ..).1 hy
      subst hi
      refine ⟨Rows.uptoBulk (D i.1), ?_, (Classical.choose_spec (hex i.1 i.2)).2⟩
      have h1 := bulk_part (d := D i.1) (l := (List.range len).map D) (List.mem_map.2 ⟨i.1, List.mem_range.2 i.2, rfl⟩)
      simp only [Rows.uptoBulk]
      omega⟩
end
/-- So many elements in all rows. -/
def rowsN {α : Type} (xs : List (List α)) : Nat := (xs.map fun r => r.length + 1).sum
theorem rowsN_succ {α : Type} {xs : List (List α)} {i : Nat} (h : i < xs.length) : rowsN (xs.take (i + 1)) = rowsN (xs.take i) + ((xs.getD i []).length + 1) := by
  rw [rowsN, take_succ' [] h, List.map_append, List.sum_append]
  simp [rowsN]
theorem rowsB_len2 {t : Tb} (hg : t.go.length = t.mv.length) : ∀ i, i ≤ t.mv.length → (∀ s, s < i → RowOk2 t s) → (rowsB t i).length ≤ 10 * rowsN (t.mv.take i) + 5 * rowsN (t.go.take i)
  | 0, _, _ => by simp [rowsB]
  | i + 1, hi, h => by
    have h1 := rowsB_len2 hg i (by omega) fun s hs => h s (by omega)
    have h2 := mvsB_len (h i (by omega)).1
    have h3 := gosB_len (h i (by omega)).2
    rw [rowsB_succ, List.length_append, List.length_append, rowsN_succ (by omega), rowsN_succ (by omega)]
    omega
theorem tbB_len {t : Tb} (hb : BSm t) (h : ByOk t) (h1 : rowsN t.mv ≤ 1048576) (h2 : rowsN t.go ≤ 1048576) : (tbB t).length ≤ 549755813888 := by
  obtain ⟨⟨r1, r2, r3, r4⟩, hok⟩ := h
  have h3 := headB_len hb r3 r1
  have h4 := rowsB_len2 r3 t.mv.length (Nat.le_refl _) hok
  rw [List.take_length, show t.go.take t.mv.length = t.go by rw [← r3, List.take_length]] at h4
  rw [tbB, List.length_append]
  omega
end Go.Proofs.YtkpehkadammppaaFx
