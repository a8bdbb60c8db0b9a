/- The order in which rows are laid: the longer first, of equals the smaller number. -/
import Derived.Test.YtkpehkadammppaaSortS
import Derived.Test.YtkpehkadammppaaPack
set_option linter.unusedVariables false
namespace Go.Proofs.YtkpehkadammppaaFx
open Go Go.RowKit Go.Proofs.Ytkpehkadammppaa.SortS Go.Proofs.Ytkpehkadammppaa.SortT
def insO (ln : Int → Nat) (s : Int) : List Int → List Int
  | [] => [s]
  | x :: r => if ln s ≤ ln x then x :: insO ln s r else s :: x :: r
def ordN (ln : Int → Nat) : Nat → List Int
  | 0 => []
  | k + 1 => insO ln (k : Int) (ordN ln k)
def ordF (rows : List (List Int)) : List Int := ordN (lnR rows) rows.length
theorem insO_perm (ln : Int → Nat) (s : Int) : ∀ l, (insO ln s l).Perm (s :: l)
  | [] => .refl _
  | x :: r => by
    unfold insO
    split
    · exact ((insO_perm ln s r).cons x).trans (.swap s x r)
    · exact .refl _
theorem iota_succ (k : Nat) : iota (k + 1) = iota k ++ [(k : Int)] := by
  unfold iota
  rw [List.range_succ, List.map_append]
  rfl
theorem ordN_perm (ln : Int → Nat) : ∀ k, (ordN ln k).Perm (iota k)
  | 0 => .refl _
  | k + 1 => by
    rw [iota_succ]
    refine (insO_perm ln k _).trans (((ordN_perm ln k).cons (k : Int)).trans ?_)
    exact List.perm_append_comm (l₁ := [(k : Int)])
theorem iota_len (k : Nat) : (iota k).length = k := by simp [iota]
theorem iota_mem {k : Nat} {x : Int} (h : x ∈ iota k) : 0 ≤ x ∧ x < k := by
  obtain ⟨j, hj, rfl⟩ := List.mem_map.1 h
  rw [List.mem_range] at hj
  omega
theorem iota_get {k j : Nat} (h : j < k) : (iota k).getD j 0 = j := by
  rw [List.getD_eq_getElem?_getD, List.getElem?_eq_getElem (by rw [iota_len]; exact h)]
  simp [iota]
theorem insO_pw (ln : Int → Nat) (s : Int) : ∀ l, l.Pairwise (Lt' ln) → (∀ x ∈ l, x < s) → (insO ln s l).Pairwise (Lt' ln)
  | [], _, _ => List.pairwise_singleton _ _
  | x :: r, h, hs => by
    rw [List.pairwise_cons] at h
    unfold insO
    split
    · rename_i hc
      refine List.pairwise_cons.2 ⟨fun y hy => ?_, insO_pw ln s r h.2 fun y hy => hs y (List.mem_cons_of_mem _ hy)⟩
      rcases List.mem_cons.1 ((insO_perm ln s r).mem_iff.1 hy) with rfl | hy
      · have := hs x (List.mem_cons_self ..)
        unfold Lt'
        omega
      · exact h.1 y hy
    · rename_i hc
      have hx : Lt' ln s x := .inl (by omega)
      exact List.pairwise_cons.2 ⟨fun y hy => by
        rcases List.mem_cons.1 hy with rfl | hy
        · exact hx
        · exact hx.trans (h.1 y hy), List.pairwise_cons.2 h⟩
theorem ordN_pw (ln : Int → Nat) : ∀ k, (ordN ln k).Pairwise (Lt' ln)
  | 0 => List.Pairwise.nil
  | k + 1 => insO_pw ln k _ (ordN_pw ln k) fun x hx => (iota_mem ((ordN_perm ln k).mem_iff.1 hx)).2
theorem sd_pw {ln : Int → Nat} {ys : List Int} (h : Sd ln ys 0 ys.length) : ys.Pairwise (Lt' ln) := by
  rw [List.pairwise_iff_getElem]
  intro i j hi hj hij
  have := h i j (Nat.zero_le _) hij hj
  rw [show at0 ys i = ys[i] by rw [at0, List.getD_eq_getElem?_getD, List.getElem?_eq_getElem hi]; rfl, show at0 ys j = ys[j] by rw [at0, List.getD_eq_getElem?_getD, List.getElem?_eq_getElem hj]; rfl] at this
  exact this
theorem ord_unique {ln : Int → Nat} {ys : List Int} {k : Nat} (hp : ys.Perm (iota k)) (h : Sd ln ys 0 k) : ys = ordN ln k := by
  have hl : ys.length = k := by rw [hp.length_eq, iota_len]
  rw [← hl] at h
  refine List.Perm.eq_of_pairwise (le := Lt' ln) (fun a b _ _ h1 h2 => ?_) (sd_pw h) (ordN_pw ln k) (hp.trans (ordN_perm ln k).symm)
  unfold Lt' at h1 h2
  omega
theorem ordF_len (rows : List (List Int)) : (ordF rows).length = rows.length := by rw [ordF, (ordN_perm _ _).length_eq, iota_len]
theorem iota_asc (k : Nat) : Asc (iota k) 0 (iota k).length := fun p q _ h1 h2 => by
  rw [iota_len] at h2
  show (iota k).getD p 0 < (iota k).getD q 0
  rw [iota_get (by omega), iota_get h2]
  omega
theorem sortOk {rows : List (List Int)} (hn : rows.length ≤ 1099511627776) : SortOk Try.prog rows (ordF rows) := by
  refine ⟨ordF_len rows, ?_, fun x hx => iota_mem ((ordN_perm _ _).mem_iff.1 hx), fun w W A A15 ca b2 b6 hR HW => ?_⟩
  · refine (ordN_pw (lnR rows) rows.length).imp fun {a b} h e => ?_
    subst e
    unfold Lt' at h
    omega
  · rcases Nat.lt_or_ge rows.length 2 with h2 | h2
    · have e : iota rows.length = ordF rows := by
        unfold ordF
        rcases (by omega : rows.length = 0 ∨ rows.length = 1) with h | h <;> rw [h] <;> rfl
      refine (sort_tiny (A := A15) (m := rows.length) (c := rows.length) (g := 57) (cap := #[.pointer (some ⟨b2, 0, none⟩), .pointer (some ⟨b6, 0, none⟩)]) (by omega)).mono fun e' w' ⟨v, h1, h3, h4⟩ => ⟨v, h1, h3, ?_⟩
      rw [← e]
      exact HW.call h4
    · obtain ⟨g, rfl⟩ := HW.blk0 (.here _ _ _) (by rw [iota_len]; omega)
      have h := sort_calls (q2 := b2) (q6 := b6) (g := g) (n := rows.length) (xs := iota rows.length) (R := A) (cr := ca) (rows := rows) (LL := fun y => [Row (fInt .i64) 3 (.slice (some ⟨g, 0, none⟩) rows.length rows.length) y, Blk b6 39 [.slice (some ⟨g, 0, none⟩) rows.length rows.length], Blk b2 23 [.slice A rows.length ca]]) hR (fun x y => .here _ _ _) (fun x => .there _ (.here _ _ _)) (fun x => .there _ (.there _ (.here _ _ _))) HW (iota_len _).symm (by rw [iota_len]; exact hn) (fun x hx => iota_mem hx) (iota_asc _) h2
      refine h.mono fun e' w' ⟨v, h1, ys, h3, h4, h5, h6⟩ => ⟨v, h1, h3, ?_⟩
      rw [ord_unique h4 h5] at h6
      exact h6
end Go.Proofs.YtkpehkadammppaaFx
