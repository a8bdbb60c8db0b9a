/- The order in which rows are laid: the longer first, of equals the smaller number. Slices cut. Entries of rows; the document's laying is the program's. Packed tables' lengths; tables of bulk at most the bound. What table.Check tells. What table.usual tells: a row's default. -/
import Derived.Test.YtkpehkadammppaaK03
import Derived.Test.YtkpehkadammppaaK02
import Derived.Test.YtkpehkadammppaaProg
set_option linter.unusedVariables false
set_option linter.unusedSimpArgs false
/-! The order in which rows are laid: the longer first, of equals the smaller number. -/
namespace Go.Proofs.YtkpehkadammppaaFx
open Go Go.RowKit Go.Proofs.Ytkpehkadammppaa.SortS Go.Proofs.Ytkpehkadammppaa.SortT
def insO (ln : Int → Nat) (s : Int) : List Int → List Int
  | [] => [s]
  | x :: r => if ln s ≤ ln x then x :: insO ln s r else s :: x :: r
def ordN (ln : Int → Nat) : Nat → List Int
  | 0 => []
  | k + 1 => insO ln (k : Int) (ordN ln k)
def ordF (rows : List (List Int)) : List Int := ordN (lnR rows) rows.length
theorem insO_perm (ln : Int → Nat) (s : Int) : ∀ l, (insO ln s l).Perm (s :: l)
  | [] => .refl _
  | x :: r => by
    unfold insO
    split
    · exact ((insO_perm ln s r).cons x).trans (.swap s x r)
    · exact .refl _
theorem iota_succ (k : Nat) : iota (k + 1) = iota k ++ [(k : Int)] := by
  unfold iota
  rw [List.range_succ, List.map_append]
  rfl
theorem ordN_perm (ln : Int → Nat) : ∀ k, (ordN ln k).Perm (iota k)
  | 0 => .refl _
  | k + 1 => by
    rw [iota_succ]
    refine (insO_perm ln k _).trans (((ordN_perm ln k).cons (k : Int)).trans ?_)
    exact List.perm_append_comm (l₁ := [(k : Int)])
theorem iota_len (k : Nat) : (iota k).length = k := by simp [iota]
theorem iota_mem {k : Nat} {x : Int} (h : x ∈ iota k) : 0 ≤ x ∧ x < k := by
  obtain ⟨j, hj, rfl⟩ := List.mem_map.1 h
  rw [List.mem_range] at hj
  omega
theorem iota_get {k j : Nat} (h : j < k) : (iota k).getD j 0 = j := by
  rw [List.getD_eq_getElem?_getD, List.getElem?_eq_getElem (by rw [iota_len]; exact h)]
  simp [iota]
theorem insO_pw (ln : Int → Nat) (s : Int) : ∀ l, l.Pairwise (Lt' ln) → (∀ x ∈ l, x < s) → (insO ln s l).Pairwise (Lt' ln)
  | [], _, _ => List.pairwise_singleton _ _
  | x :: r, h, hs => by
    rw [List.pairwise_cons] at h
    unfold insO
    split
    · rename_i hc
      refine List.pairwise_cons.2 ⟨fun y hy => ?_, insO_pw ln s r h.2 fun y hy => hs y (List.mem_cons_of_mem _ hy)⟩
      rcases List.mem_cons.1 ((insO_perm ln s r).mem_iff.1 hy) with rfl | hy
      · have := hs x (List.mem_cons_self ..)
        unfold Lt'
        omega
      · exact h.1 y hy
    · rename_i hc
      have hx : Lt' ln s x := .inl (by omega)
      exact List.pairwise_cons.2 ⟨fun y hy => by
        rcases List.mem_cons.1 hy with rfl | hy
        · exact hx
        · exact hx.trans (h.1 y hy), List.pairwise_cons.2 h⟩
theorem ordN_pw (ln : Int → Nat) : ∀ k, (ordN ln k).Pairwise (Lt' ln)
  | 0 => List.Pairwise.nil
  | k + 1 => insO_pw ln k _ (ordN_pw ln k) fun x hx => (iota_mem ((ordN_perm ln k).mem_iff.1 hx)).2
theorem sd_pw {ln : Int → Nat} {ys : List Int} (h : Sd ln ys 0 ys.length) : ys.Pairwise (Lt' ln) := by
  rw [List.pairwise_iff_getElem]
  intro i j hi hj hij
  have := h i j (Nat.zero_le _) hij hj
  rw [show at0 ys i = ys[i] by rw [at0, List.getD_eq_getElem?_getD, List.getElem?_eq_getElem hi]; rfl, show at0 ys j = ys[j] by rw [at0, List.getD_eq_getElem?_getD, List.getElem?_eq_getElem hj]; rfl] at this
  exact this
theorem ord_unique {ln : Int → Nat} {ys : List Int} {k : Nat} (hp : ys.Perm (iota k)) (h : Sd ln ys 0 k) : ys = ordN ln k := by
  have hl : ys.length = k := by rw [hp.length_eq, iota_len]
  rw [← hl] at h
  refine List.Perm.eq_of_pairwise (le := Lt' ln) (fun a b _ _ h1 h2 => ?_) (sd_pw h) (ordN_pw ln k) (hp.trans (ordN_perm ln k).symm)
  unfold Lt' at h1 h2
  omega
theorem ordF_len (rows : List (List Int)) : (ordF rows).length = rows.length := by rw [ordF, (ordN_perm _ _).length_eq, iota_len]
theorem iota_asc (k : Nat) : Asc (iota k) 0 (iota k).length := fun p q _ h1 h2 => by
  rw [iota_len] at h2
  show (iota k).getD p 0 < (iota k).getD q 0
  rw [iota_get (by omega), iota_get h2]
  omega
theorem sortOk {rows : List (List Int)} (hn : rows.length ≤ 1099511627776) : SortOk Try.prog rows (ordF rows) := by
  refine ⟨ordF_len rows, ?_, fun x hx => iota_mem ((ordN_perm _ _).mem_iff.1 hx), fun w W A A15 ca b2 b6 hR HW => ?_⟩
  · refine (ordN_pw (lnR rows) rows.length).imp fun {a b} h e => ?_
    subst e
    unfold Lt' at h
    omega
  · rcases Nat.lt_or_ge rows.length 2 with h2 | h2
    · have e : iota rows.length = ordF rows := by
        unfold ordF
        rcases (by omega : rows.length = 0 ∨ rows.length = 1) with h | h <;> rw [h] <;> rfl
      refine (sort_tiny (A := A15) (m := rows.length) (c := rows.length) (g := 57) (cap := #[.pointer (some ⟨b2, 0, none⟩), .pointer (some ⟨b6, 0, none⟩)]) (by omega)).mono fun e' w' ⟨v, h1, h3, h4⟩ => ⟨v, h1, h3, ?_⟩
      rw [← e]
      exact HW.call h4
    · obtain ⟨g, rfl⟩ := HW.blk0 (.here _ _ _) (by rw [iota_len]; omega)
      have h := sort_calls (q2 := b2) (q6 := b6) (g := g) (n := rows.length) (xs := iota rows.length) (R := A) (cr := ca) (rows := rows) (LL := fun y => [Row (fInt .i64) 3 (.slice (some ⟨g, 0, none⟩) rows.length rows.length) y, Blk b6 39 [.slice (some ⟨g, 0, none⟩) rows.length rows.length], Blk b2 23 [.slice A rows.length ca]]) hR (fun x y => .here _ _ _) (fun x => .there _ (.here _ _ _)) (fun x => .there _ (.there _ (.here _ _ _))) HW (iota_len _).symm (by rw [iota_len]; exact hn) (fun x hx => iota_mem hx) (iota_asc _) h2
      refine h.mono fun e' w' ⟨v, h1, ys, h3, h4, h5, h6⟩ => ⟨v, h1, h3, ?_⟩
      rw [ord_unique h4 h5] at h6
      exact h6
end Go.Proofs.YtkpehkadammppaaFx

/-! Slices cut. -/
namespace Go.Proofs.YtkpehkadammppaaFx
open Go Go.RowKit
def cutA (A : Option Addr) (l m s : Nat) : Option Addr := if m = l then A else A.map (·.add (l * s))
theorem add_zero' (a : Addr) : a.add 0 = a := by simp [Addr.add]
theorem elem_is {P : Program} {t e : TypeId} (ht : P.underlying t = some (.slice e)) : P.elem t = e := by simp [Program.elem, ht]
section
variable {α : Type} {d : Kn α} {f : Fk α} {w W0 : World} {A : Option Addr} {xs : List α} {lo c e m : Nat} {L L' : List Ch}
theorem Rd.cut (h : Rd d w A xs) (hl : lo ≤ xs.length) (hc : xs.length ≤ c) : Rd d w (cutA A lo c d.sz) (xs.drop lo) := by
  unfold cutA
  split
  · rw [List.drop_of_length_le (by omega)]
    exact Rd.nil _ _ _
  · rename_i hne
    refine ⟨fun hp => ?_, fun j x hx => ?_⟩
    · rw [List.length_drop] at hp
      rw [h.ad (by omega)]
      rfl
    · rw [List.getElem?_drop] at hx
      have hA := h.ad (by have := (List.getElem?_eq_some_iff.1 hx).1; omega)
      obtain ⟨cs, h1, h2⟩ := h.el _ _ hx
      refine ⟨cs, h1, fun i u hu => ?_⟩
      have := h2 i u hu
      rw [hA]
      show w.cell? (((adr A).add (lo * d.sz)).add _) = _
      rw [add_add, ← Nat.add_assoc, ← Nat.add_mul]
      exact this
/-- The head of a row of the call's own. -/
theorem Holds.rcut (H : Holds W0 L w) (U : Upd L (Row f e (.slice A m c) xs) (Row f e (.slice A lo c) (xs.take lo)) L') (hl : lo ≤ xs.length) : Holds W0 L' w :=
  H.imp U fun S ⟨h1, h2⟩ => by
    have e1 : (xs.take lo).length = lo := by rw [List.length_take]; omega
    have hfl := flat_len f xs
    have hle : lo * f.sz ≤ xs.length * f.sz := Nat.mul_le_mul_right _ hl
    have e2 : (xs.take lo).flatMap f.enc = (xs.flatMap f.enc).take (lo * f.sz) := by
      have h3 : xs.flatMap f.enc = (xs.take lo).flatMap f.enc ++ (xs.drop lo).flatMap f.enc := by rw [← List.flatMap_append, List.take_append_drop]
      have h4 := flat_len f (xs.take lo)
      rw [e1] at h4
      rw [h3, ← h4, List.take_left']
      rfl
    refine ⟨fun k hk => h1 k (by cases A <;> exact hk), by rw [flat_len], ?_⟩
    rw [e1]
    rcases h2.2 with ⟨hv, hz⟩ | ⟨g, cap, cur, hv, hg, hh, hn, hcm, hsz, hcur⟩
    · injection hv with a1 a2 a3
      subst a1 a2 a3
      exact .inl ⟨by rw [show lo = 0 by omega], by omega⟩
    · injection hv with a1 a2 a3
      subst a1 a2 a3
      refine .inr ⟨g, c, cur, rfl, hg, hh, by omega, hcm, hsz, ?_⟩
      rw [e2, ← hcur, List.take_take, Nat.min_eq_left hle]
end
section
variable {P : Program} {n : Nat} {Q : Post} {l : Fr} {w : World} {d : Nat} {x y z : Operand} {ty t e : TypeId} {pos : String} {af : Array Edge} {A : Option Addr} {m c sz : Nat} {k k2 : IntKind} {lo hi : Int}
theorem v_cutlo (ht : P.underlying t = some (.slice e)) (hsz : ∀ W, (sizeOf e).run P W = .ok sz W) (hx : ev l x = some (.slice A m c)) (hy : ev l y = some (.int k lo)) (h0 : 0 ≤ lo) (h1 : lo ≤ m) :
    Vs P n l ⟨some d, .slice t x (some y) none none, ty, pos, af, none⟩ w (.slice (cutA A lo.toNat c sz) (m - lo.toNat) (c - lo.toNat)) := fun a ha => by
  have ht' : P.underlying t = some (.slice (P.elem t)) := by rw [elem_is ht]; exact ht
  have h := run_slice_l (P := P) w t A m c ht' k lo h0 h1
  rw [elem_is ht, hsz] at h
  simp [execOp, ha.eval hx, ha.eval hy, run_sliceAt_slice w t _ _ _ _ ht', h, sliced, cutA]
theorem v_cuthi (ht : P.underlying t = some (.slice e)) (hsz : ∀ W, (sizeOf e).run P W = .ok sz W) (hx : ev l x = some (.slice A m c)) (hy : ev l y = some (.int k hi)) (h0 : 0 ≤ hi) (h1 : hi ≤ c) :
    Vs P n l ⟨some d, .slice t x none (some y) none, ty, pos, af, none⟩ w (.slice A hi.toNat c) := fun a ha => by
  have ht' : P.underlying t = some (.slice (P.elem t)) := by rw [elem_is ht]; exact ht
  have h := run_slice_h (P := P) w t A m c ht' k hi h0 h1
  rw [elem_is ht, hsz] at h
  have e1 : (fun x : Addr => x.add 0) = id := funext fun a => add_zero' a
  simp [execOp, ha.eval hx, ha.eval hy, run_sliceAt_slice w t _ _ _ _ ht', h, sliced, e1]
end
end Go.Proofs.YtkpehkadammppaaFx

/-! Entries of rows; the document's laying is the program's. -/
namespace Go.Proofs.YtkpehkadammppaaFx
open Go Go.RowKit Go.Proofs.Ytkpehkadammppaa.Free
/-- What stands in a row: its place, and its value. -/
structure En where
  at_ : Int
  mv : Mv
  to : Int
def fEn : Fk En := ⟨4, fun x => [.int .i64 x.at_, .int .i64 x.mv.d, .int .i64 x.mv.n, .int .i64 x.to], fun _ => rfl, fun x u hu => by
  simp only [List.mem_cons, List.not_mem_nil, or_false] at hu
  rcases hu with rfl | rfl | rfl | rfl <;> rfl⟩
def enZ : En := ⟨0, mv0, 0⟩
abbrev ats (row : List En) : List Int := row.map En.at_
abbrev atss (rows : List (List En)) : List (List Int) := rows.map ats
theorem atss_get (rows : List (List En)) (i : Nat) : (atss rows).getD i [] = ats (rows.getD i []) := by
  rw [List.getD_eq_getElem?_getD, List.getD_eq_getElem?_getD, List.getElem?_map]
  cases rows[i]? <;> rfl
theorem ats_get (row : List En) (i : Nat) : (ats row).getD i 0 = (row.getD i enZ).at_ := by
  rw [List.getD_eq_getElem?_getD, List.getD_eq_getElem?_getD, List.getElem?_map]
  cases row[i]? <;> rfl
theorem lnR_ats (rows : List (List En)) (x : Int) : lnR (atss rows) x = (rows.getD x.toNat []).length := by
  rw [lnR, atss_get, List.length_map]
theorem insO_at {ln : Int → Nat} {s : Int} : ∀ (out : List Int) (i : Nat), i ≤ out.length → (∀ q, q < i → ln s ≤ ln (out.getD q 0)) → (i = out.length ∨ ¬ ln s ≤ ln (out.getD i 0)) → insO ln s out = out.take i ++ [s] ++ out.drop i
  | [], i, h, _, _ => by simp at h; subst h; rfl
  | x :: r, 0, _, _, h => by
    have hn : ¬ ln s ≤ ln x := h.resolve_left (by simp)
    unfold insO
    rw [if_neg hn]
    rfl
  | x :: r, i + 1, h1, h2, h3 => by
    have hx : ln s ≤ ln x := h2 0 (by omega)
    unfold insO
    rw [if_pos hx, insO_at r i (by simpa using h1) (fun q hq => h2 (q + 1) (by omega)) (h3.imp (by simp) (fun h => h))]
    simp
theorem ordN_len (ln : Int → Nat) (k : Nat) : (ordN ln k).length = k := by rw [(ordN_perm ln k).length_eq, iota_len]
theorem ordN_mem {ln : Int → Nat} {k : Nat} {x : Int} (h : x ∈ ordN ln k) : 0 ≤ x ∧ x < k := iota_mem ((ordN_perm ln k).mem_iff.1 h)
theorem ext_getD {α : Type} {xs ys : List α} (z : α) (hl : xs.length = ys.length) (h : ∀ j, xs.getD j z = ys.getD j z) : xs = ys := by
  apply List.ext_getElem hl
  intro j h1 h2
  have := h j
  rw [List.getD_eq_getElem?_getD, List.getD_eq_getElem?_getD, List.getElem?_eq_getElem h1, List.getElem?_eq_getElem h2] at this
  exact this
theorem putAt_pad (c : List Int) (a s : Int) (n : Nat) : putAt (padTo c n) a s = padTo (putAt c a s) n :=
  ext_getD (-1) (by simp only [putAt_len, padTo_len]; omega) fun j => by rw [putAt_get, padTo_get, padTo_get, putAt_get]
theorem putsN_pad (c row : List Int) (b s : Int) (n : Nat) : ∀ j, j ≤ row.length → putsN (padTo c n) row b s j = padTo (putsN c row b s j) n
  | 0, _ => rfl
  | j + 1, h => by rw [putsN_succ (by omega), putsN_succ (by omega), putsN_pad c row b s n j (by omega), putAt_pad]
theorem getD_irrel' {c : List Int} {j : Nat} (h : j < c.length) : c.getD j 0 = c.getD j (-1) := getD_irrel h _ _
theorem freeB_pad {c row : List Int} {b : Int} (n : Nat) (hb : 0 ≤ b) (hk : ∀ k ∈ row, 0 ≤ k) : freeB (padTo c n) row b = freeB c row b := by
  unfold freeB
  have hall : ∀ r : List Int, (∀ k ∈ r, 0 ≤ k) → (r.all fun k => !(decide (b + k < (padTo c n).length) && decide (0 ≤ (padTo c n).getD (b + k).toNat 0))) = r.all fun k => !(decide (b + k < c.length) && decide (0 ≤ c.getD (b + k).toNat 0)) := by
    intro r
    induction r with
    | nil => exact fun _ => rfl
    | cons k r ih =>
      intro hk
      rw [List.all_cons, List.all_cons, ih fun x hx => hk x (List.mem_cons_of_mem _ hx)]
      congr 2
      have hk0 := hk k (List.mem_cons_self ..)
      have hl := padTo_len c n
      rcases (by omega : b + k < c.length ∨ ¬ b + k < c.length) with h | h
      · have e1 : (padTo c n).getD (b + k).toNat 0 = c.getD (b + k).toNat 0 := by rw [getD_irrel' (by omega), padTo_get, ← getD_irrel' (by omega)]
        rw [e1, decide_eq_true h, decide_eq_true (show b + k < (padTo c n).length by omega)]
      · rw [decide_eq_false h, Bool.false_and]
        rcases (by omega : b + k < (padTo c n).length ∨ ¬ b + k < (padTo c n).length) with h2 | h2
        · have e1 : (padTo c n).getD (b + k).toNat 0 = -1 := by rw [getD_irrel' (by omega), padTo_get, List.getD_eq_getElem?_getD, List.getElem?_eq_none (by omega)]; rfl
          rw [e1, show decide ((0 : Int) ≤ -1) = false by decide, Bool.and_false]
        · rw [decide_eq_false h2, Bool.false_and]
  exact hall row hk
theorem firstFree_spec {c row : List Int} (hk : ∀ k ∈ row, 0 ≤ k) : (∀ b', b' < firstFree c row → freeB c row (b' : Int) = false) ∧ freeB c row (firstFree c row : Int) = true := by
  unfold firstFree
  cases h : (List.range (c.length + 1)).find? fun (b : Nat) => freeB c row (b : Int) with
  | none =>
    have := List.find?_eq_none.1 h c.length (by simp)
    exact absurd (freeB_end (Int.le_refl _) hk) this
  | some b =>
    have h2 := List.find?_range_eq_some.1 h
    exact ⟨fun b' hb => by have := h2.2.2 b' hb; simpa using this, h2.1⟩
theorem firstFree_pad {c row : List Int} (n : Nat) (hk : ∀ k ∈ row, 0 ≤ k) : firstFree (padTo c n) row = firstFree c row := by
  obtain ⟨h1, h2⟩ := firstFree_spec (c := c) hk
  refine firstFree_is (fun b' hb => by rw [freeB_pad n (by omega) hk]; exact h1 b' hb) (by rw [freeB_pad n (by omega) hk]; exact h2) ?_
  have := firstFree_le c row
  rw [padTo_len]
  omega
def stepR (rows : List (List Int)) (st : LS) (s : Int) : LS := if (rows.getD s.toNat []).length = 0 then st else stepF rows st s
def stR (rows : List (List Int)) (ord : List Int) (least : Int) (i : Nat) : LS := (ord.take i).foldl (stepR rows) (List.replicate rows.length 0, List.replicate least.toNat (-1))
theorem stR_skip {rows : List (List Int)} {ord : List Int} {least : Int} {i : Nat} (h : i < ord.length) (h0 : (rows.getD (ord.getD i 0).toNat []).length = 0) : stR rows ord least (i + 1) = stR rows ord least i := by
  unfold stR
  rw [take_succ' 0 h, List.foldl_append]
  show stepR rows _ _ = _
  rw [stepR, if_pos h0]
theorem stR_succ {rows : List (List Int)} {ord : List Int} {least : Int} {i b : Nat} (h : i < ord.length) (h0 : ¬ (rows.getD (ord.getD i 0).toNat []).length = 0) (hb : firstFree (stR rows ord least i).2 (rows.getD (ord.getD i 0).toNat []) = b) :
    stR rows ord least (i + 1) = ((stR rows ord least i).1.set (ord.getD i 0).toNat b, putsN (stR rows ord least i).2 (rows.getD (ord.getD i 0).toNat []) b (ord.getD i 0) (rows.getD (ord.getD i 0).toNat []).length) := by
  have e : stR rows ord least (i + 1) = stepR rows (stR rows ord least i) (ord.getD i 0) := by
    unfold stR
    rw [take_succ' 0 h, List.foldl_append]
    rfl
  rw [e, stepR, if_neg h0, stepF, hb]
theorem stN_base0 {rows : List (List Int)} {ord : List Int} (hn : ord.Nodup) (hlt : ∀ x ∈ ord, 0 ≤ x ∧ x < rows.length) : ∀ i, i ≤ ord.length → ∀ x : Int, 0 ≤ x → x ∉ ord.take i → (stN rows ord i).1.getD x.toNat 0 = 0
  | 0, _, x, _, _ => by
    show (List.replicate rows.length (0 : Int)).getD _ 0 = 0
    rw [List.getD_eq_getElem?_getD, List.getElem?_replicate]
    split <;> rfl
  | i + 1, hi, x, hx, hm => by
    rw [take_succ' 0 (by omega), List.mem_append, List.mem_singleton] at hm
    have hS := hlt _ (getD_mem (z := 0) (show i < ord.length by omega))
    have ih := stN_base0 hn hlt i (by omega) x hx (fun h => hm (.inl h))
    rw [stN_succ (by omega) rfl]
    dsimp only
    rw [List.getD_eq_getElem?_getD, List.getElem?_set_ne (fun e => hm (.inr (by omega))), ← List.getD_eq_getElem?_getD]
    exact ih
theorem set_same {xs : List Int} {i : Nat} {a : Int} (h : xs.getD i 0 = a) : xs.set i a = xs := by
  refine ext_getD 0 List.length_set fun j => ?_
  rw [List.getD_eq_getElem?_getD, List.getElem?_set]
  by_cases hj : i = j
  · subst hj
    rw [if_pos rfl]
    split
    · exact h.symm
    · rename_i hl
      rw [List.getD_eq_getElem?_getD, List.getElem?_eq_none (by omega)]
  · rw [if_neg hj, List.getD_eq_getElem?_getD]
theorem stR_is {rows : List (List Int)} {ord : List Int} (least : Int) (hn : ord.Nodup) (hlt : ∀ x ∈ ord, 0 ≤ x ∧ x < rows.length) (hk : ∀ r ∈ rows, ∀ k ∈ r, 0 ≤ k) : ∀ i, i ≤ ord.length → stR rows ord least i = ((stN rows ord i).1, padTo (stN rows ord i).2 least.toNat)
  | 0, _ => by
    show (List.replicate rows.length (0 : Int), List.replicate least.toNat (-1 : Int)) = (List.replicate rows.length 0, padTo [] least.toNat)
    simp [padTo]
  | i + 1, hi => by
    have ih := stR_is least hn hlt hk i (by omega)
    have hS := hlt _ (getD_mem (z := 0) (show i < ord.length by omega))
    have hk0 : ∀ k ∈ rows.getD (ord.getD i 0).toNat [], 0 ≤ k := hk _ (getD_mem (by omega))
    rcases Nat.eq_zero_or_pos (rows.getD (ord.getD i 0).toNat []).length with h0 | h0
    · rw [stR_skip (by omega) h0, ih, stN_succ (b := 0) (by omega) (by rw [List.eq_nil_of_length_eq_zero h0]; exact firstFree_is (fun b' hb => by omega) rfl (Nat.zero_le _))]
      rw [List.eq_nil_of_length_eq_zero h0]
      show (_, _) = (List.set _ _ _, padTo (stN rows ord i).2 _)
      rw [set_same]
      exact stN_base0 hn hlt i (by omega) _ hS.1 (nd_take hn (by omega))
    · rw [stR_succ (by omega) (by omega) rfl, stN_succ (by omega) rfl, ih]
      dsimp only
      rw [firstFree_pad _ hk0, putsN_pad _ _ _ _ _ _ (Nat.le_refl _)]
theorem stR_laid {rows : List (List Int)} {ord : List Int} (least : Int) (hn : ord.Nodup) (hlt : ∀ x ∈ ord, 0 ≤ x ∧ x < rows.length) (hk : ∀ r ∈ rows, ∀ k ∈ r, 0 ≤ k) : stR rows ord least ord.length = laidF rows ord least := stR_is least hn hlt hk _ (Nat.le_refl _)
/-- The document's laying of entries. -/
def stE (rows : List (List En)) (least : Int) (i : Nat) : LS := stR (atss rows) (ordF (atss rows)) least i
theorem ordF_nd (rows : List (List Int)) : (ordF rows).Nodup := (ordN_pw (lnR rows) rows.length).imp fun {a b} h e => by
  subst e
  unfold Lt' at h
  omega
theorem ordF_mem {rows : List (List Int)} {x : Int} (h : x ∈ ordF rows) : 0 ≤ x ∧ x < rows.length := iota_mem ((ordN_perm _ _).mem_iff.1 h)
theorem ordE_len (rows : List (List En)) : (ordF (atss rows)).length = rows.length := by rw [ordF_len, List.length_map]
theorem ordE_mem {rows : List (List En)} {x : Int} (h : x ∈ ordF (atss rows)) : 0 ≤ x ∧ x < rows.length := by
  have := ordF_mem h
  rwa [List.length_map] at this
theorem stE_zero (rows : List (List En)) (least : Int) : stE rows least 0 = (List.replicate rows.length 0, List.replicate least.toNat (-1)) := by
  show (List.replicate (atss rows).length (0 : Int), _) = _
  rw [List.length_map]
theorem stE_skip {rows : List (List En)} {least : Int} {i : Nat} (h : i < (ordF (atss rows)).length) (h0 : (rows.getD ((ordF (atss rows)).getD i 0).toNat []).length = 0) : stE rows least (i + 1) = stE rows least i :=
  stR_skip h (by rw [atss_get, List.length_map]; exact h0)
theorem stE_succ {rows : List (List En)} {least : Int} {i b : Nat} (h : i < (ordF (atss rows)).length) (h0 : ¬ (rows.getD ((ordF (atss rows)).getD i 0).toNat []).length = 0) (hb : firstFree (stE rows least i).2 (ats (rows.getD ((ordF (atss rows)).getD i 0).toNat [])) = b) :
    stE rows least (i + 1) = ((stE rows least i).1.set ((ordF (atss rows)).getD i 0).toNat b, putsN (stE rows least i).2 (ats (rows.getD ((ordF (atss rows)).getD i 0).toNat [])) b ((ordF (atss rows)).getD i 0) (rows.getD ((ordF (atss rows)).getD i 0).toNat []).length) := by
  have := stR_succ (b := b) (rows := atss rows) (least := least) h (by rw [atss_get, List.length_map]; exact h0) (by rw [atss_get]; exact hb)
  rw [atss_get, List.length_map] at this
  exact this
theorem stE_is {rows : List (List En)} {least : Int} {i : Nat} (hk : ∀ r ∈ atss rows, ∀ k ∈ r, 0 ≤ k) (hi : i ≤ rows.length) : stE rows least i = ((stN (atss rows) (ordF (atss rows)) i).1, padTo (stN (atss rows) (ordF (atss rows)) i).2 least.toNat) :=
  stR_is least (ordF_nd _) (fun x hx => ordF_mem hx) hk i (by rw [ordE_len]; exact hi)
theorem stE_len {rows : List (List En)} {least : Int} {i M : Nat} (hM : ∀ r ∈ atss rows, ∀ k ∈ r, 0 ≤ k ∧ k < M) (hi : i ≤ rows.length) : (stE rows least i).1.length = rows.length ∧ (stE rows least i).2.length ≤ max (i * M) least.toNat := by
  rw [stE_is (fun r hr k hk => (hM r hr k hk).1) hi]
  dsimp only
  have h1 := stN_len (atss rows) (ordF (atss rows)) i
  have h2 := stN_chk (fun x hx => ordF_mem hx) hM i (by rw [ordE_len]; exact hi)
  rw [List.length_map] at h1
  rw [padTo_len]
  omega
theorem stE_laid {rows : List (List En)} {least : Int} (hk : ∀ r ∈ atss rows, ∀ k ∈ r, 0 ≤ k) : stE rows least rows.length = laidF (atss rows) (ordF (atss rows)) least := by
  have := stR_laid (rows := atss rows) least (ordF_nd _) (fun x hx => ordF_mem hx) hk
  rwa [ordE_len] at this
theorem ats_mem {rows : List (List En)} {i : Nat} (h : i < rows.length) : ats (rows.getD i []) ∈ atss rows := List.mem_map.2 ⟨_, getD_mem h, rfl⟩
end Go.Proofs.YtkpehkadammppaaFx

/-! Packed tables' lengths; tables of bulk at most the bound. -/
namespace Go.Proofs.YtkpehkadammppaaFx
open Go Go.RowKit
/-- Its rows are of memory's length. -/
structure Lens (p : Pk) : Prop where
  d : p.dflt.length ≤ 1099511627776
  b : p.base.length ≤ 1099511627776
  c : p.check.length ≤ 1099511627776
  e : p.cell.length ≤ 1099511627776
  gb : p.gbase.length ≤ 1099511627776
  gc : p.gcheck.length ≤ 1099511627776
  ge : p.gcell.length ≤ 1099511627776
/-- A table of bulk at most the bound. -/
structure Small (t : Tb) : Prop where
  ok : t.ok
  mr : ∀ r ∈ t.mv, r.length ≤ 1048576
  gr : ∀ r ∈ t.go, r.length ≤ 1048576
theorem Small.big {t : Tb} {k r p : Int} (h : Small t) (hg : TGood t k r p) : k ≤ 1048576 ∧ r ≤ 1048576 ∧ t.mv.length * k.toNat ≤ 1099511627776 ∧ t.go.length * r.toNat ≤ 1099511627776 := by
  obtain ⟨h1, h2, h3, h4⟩ := hg
  have h5 := h4 0 (by omega)
  have h6 := h5.1
  have h7 := h5.2.1
  have h8 := h.mr _ (getD_mem (z := []) (show 0 < t.mv.length by omega))
  have h9 := h.gr _ (getD_mem (z := []) (show 0 < t.go.length by omega))
  have e1 : k.toNat ≤ 1048576 := by omega
  have e2 : r.toNat ≤ 1048576 := by omega
  have e3 := Nat.mul_le_mul h2 e1
  have e4 := Nat.mul_le_mul (show t.go.length ≤ 4096 by omega) e2
  exact ⟨by omega, by omega, by omega, by omega⟩
theorem pk_lens {t : Tb} {k r p : Int} (h : Small t) : Lens (pkAns t k r p (ordF (t.mv.map pkRow)) (ordF (t.go.map goRow))) := by
  unfold pkAns
  split
  · rename_i hc
    obtain ⟨_, hg⟩ := checkF_zero hc
    obtain ⟨b1, b2, b3, b4⟩ := h.big hg
    have hgl := hg.2.2.1
    have q1 := h.ok.m
    have q2 := h.ok.g
    have hlc := laidF_len (rows := t.mv.map pkRow) (least := k) (fun x hx => ordF_mem hx) (ordF_len _) (fun x hx => (pm_ok hg x hx).1)
    have hgc := laidF_len (rows := t.go.map goRow) (least := r) (fun x hx => ordF_mem hx) (ordF_len _) (fun x hx => (gm_ok hg x hx).1)
    have hlb := laidF_len1 (t.mv.map pkRow) (ordF (t.mv.map pkRow)) k
    have hgb := laidF_len1 (t.go.map goRow) (ordF (t.go.map goRow)) r
    rw [List.length_map] at hlc hgc hlb hgb
    refine ⟨?_, ?_, ?_, ?_, ?_, ?_, ?_⟩ <;> simp only [packF]
    · rw [List.length_map]; exact q1
    · omega
    · omega
    · rw [cellsUpto_len (Nat.le_refl _)]; omega
    · omega
    · omega
    · rw [cellsUpto_len (Nat.le_refl _)]; omega
  · exact ⟨by decide, by decide, by decide, by decide, by decide, by decide, by decide⟩
theorem ownP_rd {W0 w : World} {L : List Ch} {a : PkA} {p : Pk} (H : Holds W0 L w) (h : Pm L (OwnP a p)) : p.rd w a := by
  have H1 := H.pm h
  exact ⟨H1.rrd (f := fMv) (e := 48) (A := a.d) (xs := p.dflt) (.here _ _ _), H1.rrd (f := fInt .i64) (e := 3) (A := a.b) (xs := p.base) (.there _ (.here _ _ _)), H1.rrd (f := fInt .i64) (e := 3) (A := a.c) (xs := p.check) (.there _ (.there _ (.here _ _ _))), H1.rrd (f := fMv) (e := 48) (A := a.e) (xs := p.cell) (.there _ (.there _ (.there _ (.here _ _ _)))),
    H1.rrd (f := fInt .i64) (e := 3) (A := a.gb) (xs := p.gbase) (.there _ (.there _ (.there _ (.there _ (.here _ _ _))))), H1.rrd (f := fInt .i64) (e := 3) (A := a.gc) (xs := p.gcheck) (.there _ (.there _ (.there _ (.there _ (.there _ (.here _ _ _)))))), H1.rrd (f := fInt .i64) (e := 3) (A := a.ge) (xs := p.gcell) (.there _ (.there _ (.there _ (.there _ (.there _ (.there _ (.here _ _ _)))))))⟩
theorem sorts {t : Tb} {k r p : Int} (h : Small t) : TGood t k r p → SortOk Try.prog (t.mv.map pkRow) (ordF (t.mv.map pkRow)) ∧ SortOk Try.prog (t.go.map goRow) (ordF (t.go.map goRow)) := fun hg =>
  ⟨sortOk (by rw [List.length_map]; exact h.ok.m), sortOk (by rw [List.length_map]; exact h.ok.g)⟩
theorem Small.big4 {t : Tb} {k r p : Int} (h : Small t) : TGood t k r p → t.mv.length * k.toNat ≤ 1099511627776 ∧ t.go.length * r.toNat ≤ 1099511627776 ∧ k ≤ 1099511627776 ∧ r ≤ 1099511627776 := fun hg => by
  have := h.big hg
  omega
end Go.Proofs.YtkpehkadammppaaFx

/-! What table.Check tells. -/
namespace Go.Proofs.Ytkpehkadammppaa.Chk
open Go Go.RowKit Go.Proofs.YtkpehkadammppaaFx 
theorem agg25 : Agg Try.prog 25 2 := agg_of Try.underlying25 (by kernel_rfl)
theorem agg48 : Agg Try.prog 48 2 := agg_of Try.underlying48 (by kernel_rfl)
theorem ba83 : BuildAt Try.prog 83 [.slice none 0 0, .slice none 0 0, .int .i64 0, .int .i64 0, .int .i64 0, .slice none 0 0] [(0, 2), (2, 1), (3, 1), (4, 1), (5, 1)] := build_at Try.underlying83 (by kernel_rfl) (by kernel_rfl)
theorem en36 : Enters Try.prog 36 := enters Try.func36 (by kernel_rfl) rfl
theorem en37 : Enters Try.prog 37 := enters Try.func37 (by kernel_rfl) rfl
theorem fa25_0 : FieldAt Try.prog 25 0 0 := field_at (sz := 0) Try.underlying25 rfl (by kernel_rfl) rfl
theorem fa25_1 : FieldAt Try.prog 25 1 1 := field_at (sz := 0) Try.underlying25 rfl (by kernel_rfl) rfl
theorem fa48_0 : FieldAt Try.prog 48 0 0 := field_at (sz := 0) Try.underlying48 rfl (by kernel_rfl) rfl
theorem fa48_1 : FieldAt Try.prog 48 1 1 := field_at (sz := 0) Try.underlying48 rfl (by kernel_rfl) rfl
theorem fa83_0 : FieldAt Try.prog 83 0 0 := field_at (sz := 1) Try.underlying83 rfl (by kernel_rfl) rfl
theorem fa83_1 : FieldAt Try.prog 83 1 2 := field_at (sz := 0) Try.underlying83 rfl (by kernel_rfl) rfl
theorem fa83_2 : FieldAt Try.prog 83 2 3 := field_at (sz := 0) Try.underlying83 rfl (by kernel_rfl) rfl
theorem fa83_3 : FieldAt Try.prog 83 3 4 := field_at (sz := 0) Try.underlying83 rfl (by kernel_rfl) rfl
theorem fa83_4 : FieldAt Try.prog 83 4 5 := field_at (sz := 0) Try.underlying83 rfl (by kernel_rfl) rfl
theorem mixed : Try.prog.follows .mixedOrders = true := by kernel_rfl
theorem one22 : One Try.prog 22 := one_of Try.underlying22 rfl (by kernel_rfl)
theorem one23 : One Try.prog 23 := one_of Try.underlying23 rfl (by kernel_rfl)
theorem one3 : One Try.prog 3 := one_of Try.underlying3 rfl (by kernel_rfl)
theorem one38 : One Try.prog 38 := one_of Try.underlying38 rfl (by kernel_rfl)
theorem one39 : One Try.prog 39 := one_of Try.underlying39 rfl (by kernel_rfl)
theorem one81 : One Try.prog 81 := one_of Try.underlying81 rfl (by kernel_rfl)
theorem one84 : One Try.prog 84 := one_of Try.underlying84 rfl (by kernel_rfl)
theorem sz3 : ∀ W, (sizeOf 3).run Try.prog W = .ok 1 W := size_of (by kernel_rfl)
theorem sz38 : ∀ W, (sizeOf 38).run Try.prog W = .ok 1 W := size_of (by kernel_rfl)
theorem sz39 : ∀ W, (sizeOf 39).run Try.prog W = .ok 1 W := size_of (by kernel_rfl)
theorem sz48 : ∀ W, (sizeOf 48).run Try.prog W = .ok 2 W := size_of (by kernel_rfl)
theorem sz81 : ∀ W, (sizeOf 81).run Try.prog W = .ok 1 W := size_of (by kernel_rfl)
theorem sz84 : ∀ W, (sizeOf 84).run Try.prog W = .ok 1 W := size_of (by kernel_rfl)
theorem zv48 : ∀ W, (zeroValue 48).run Try.prog W = .ok (.agg #[.int .i64 0, .int .i64 0]) W := zero_of (by kernel_rfl)
theorem zv84 : ∀ W, (zeroValue 84).run Try.prog W = .ok (.nilFunc) W := zero_of (by kernel_rfl)

set_option maxRecDepth 100000 in
theorem cmoves_calls {A B : Option Addr} {ca cb b s0 : Nat} {t : Tb} {k r p : Int} {ec : Value} {w : World} (hx : t.rd w A B) (hk : t.ok) (hs0 : s0 < t.mv.length) (hc : ∀ j v, ([.slice A t.mv.length ca, .slice B t.go.length cb, .int .i64 k, .int .i64 r, .int .i64 p, ec] : List Value)[j]? = some v → w.cell? ⟨b, j, none⟩ = some v) :
    Calls Try.prog 36 #[.pointer (some ⟨b, 0, none⟩), .int .i64 s0] w fun e w' => ∃ v, e = .returned v ∧ v = .bool (dec (((t.mv.getD s0 []).length : Int) = k ∧ ∀ j, j < (t.mv.getD s0 []).length → mvOk ((t.mv.getD s0 []).getD j mv0) t.mv.length p)) ∧ Holds w [] w' := by
  have hM := hx.m
  have hG := hx.g
  have q1 := hk.m'
  have q2 := hk.g'
  have q3 := hk.ml (i := s0) (by omega)
  refine calls_of Try.func36 rfl Try.ntmps36 rfl ?_
  have H := Holds.start w
  refine wc_seq ?_
  refine wc_region ?_
  refine wl_v rfl rfl rfl (v_assign rfl) ?_
  refine wl_nil ?_
  refine wc_seq ?_
  refine wc_seq ?_
  refine wc_still mixed (by kernel_rfl) ?_
  have Hd := H.drew
  refine ws_v rfl rfl rfl (v_move rfl) ?_
  refine ws_v rfl rfl rfl (v_nil rfl) ?_
  refine ws_v rfl rfl rfl (v_fb (o2 := 0) fa83_0 rfl rfl) ?_
  refine ws_v rfl rfl rfl (v_fb (o2 := 0) fa25_0 rfl rfl) ?_
  refine ws_v rfl rfl rfl (v_load one22 rfl (Hd.cell (hc 0 _ rfl))) ?_
  refine ws_v rfl rfl rfl (v_move rfl) ?_
  refine ws_v rfl rfl rfl (v_idx Try.underlying22 sz38 hM.ad rfl rfl (by omega) (by omega)) ?_
  obtain ⟨B15, cp15, hc15, hl15, hr15⟩ := hM.atSlN (i := s0) (by omega)
  refine ws_v rfl rfl rfl (v_load one38 rfl (Hd.cell (hc15))) ?_
  refine ws_v rfl rfl rfl (v_len Try.underlying38 rfl) ?_
  refine ws_v rfl rfl rfl (v_move rfl) ?_
  refine ws_v rfl rfl rfl (v_nil rfl) ?_
  refine ws_v rfl rfl rfl (v_fb (o2 := 2) fa83_1 rfl rfl) ?_
  refine ws_v rfl rfl rfl (v_load one3 rfl (Hd.cell (hc 2 _ rfl))) ?_
  refine ws_v rfl rfl rfl (v_neq rfl rfl) ?_
  refine ws_nil ?_
  refine wc_cond rfl (fun c0 => ?_) (fun c0 => ?_)
  · have c0p := of_nd_t c0
    refine wc_seq ?_
    refine wc_region ?_
    refine wl_v rfl rfl rfl (v_assign rfl) ?_
    refine wl_nil ?_
    refine wc_ret ?_
    first
      | exact ⟨_, res1 rfl rfl, congrArg Value.bool (dec_t ⟨c0p, fun j hj => ha j (by omega)⟩).symm, Hd⟩
      | exact ⟨_, res1 rfl rfl, congrArg Value.bool (dec_f fun hh => c0p hh.1).symm, Hd.pm (by repeat constructor)⟩
      | exact ⟨_, res1 rfl rfl, congrArg Value.bool (dec_f fun hh => by have h5 := hh.2 i (by omega); unfold mvOk at h5; omega).symm, Hd.pm (by repeat constructor)⟩
  · have c0p := of_nd_f c0
    refine wc_skip ?_
    refine wc_seq ?_
    refine wc_seq ?_
    refine wc_region ?_
    refine wl_v rfl rfl rfl (v_move rfl) ?_
    refine wl_v rfl rfl rfl (v_nil rfl) ?_
    refine wl_v rfl rfl rfl (v_fb (o2 := 0) fa83_0 rfl rfl) ?_
    refine wl_v rfl rfl rfl (v_fb (o2 := 0) fa25_0 rfl rfl) ?_
    refine wl_v rfl rfl rfl (v_load one22 rfl (Hd.cell (hc 0 _ rfl))) ?_
    refine wl_v rfl rfl rfl (v_move rfl) ?_
    refine wl_v rfl rfl rfl (v_idx Try.underlying22 sz38 hM.ad rfl rfl (by omega) (by omega)) ?_
    obtain ⟨B29, cp29, hc29, hl29, hr29⟩ := hM.atSlN (i := s0) (by omega)
    refine wl_v rfl rfl rfl (v_load one38 rfl (Hd.cell (hc29))) ?_
    refine wl_v rfl rfl rfl (v_len Try.underlying38 rfl) ?_
    refine wl_v rfl rfl rfl (v_move rfl) ?_
    refine wl_nil ?_
    refine wc_block ?_
    refine wc_loop (σ := Nat) (fun s => [(0, .pointer (some ⟨b, 0, none⟩)), (29, .slice B29 (t.mv.getD s0 []).length cp29), (30, .int .i64 (t.mv.getD s0 []).length), (31, .int .i64 s)]) (fun s W => s ≤ (t.mv.getD s0 []).length ∧ (∀ j, j < s → mvOk ((t.mv.getD s0 []).getD j mv0) t.mv.length p) ∧ Holds w [] W) (fun s => (t.mv.getD s0 []).length - s) 0 (sc rfl (sc rfl (sc rfl (sc rfl (sn _))))) ⟨Nat.zero_le _, upto_zero, Hd⟩ ?_
    rintro i W0 ⟨hi, ha, H⟩
    refine wc_seq ?_
    refine wc_region ?_
    refine wl_v rfl rfl rfl (v_lss rfl rfl) ?_
    refine wl_nil ?_
    refine wc_seq ?_
    refine wc_cond rfl (fun c1 => ?_) (fun c1 => ?_)
    · have c1p := of_decide_eq_true c1
      refine wc_skip ?_
      refine wc_seq ?_
      refine wc_block ?_
      refine wc_seq ?_
      refine wc_region ?_
      refine wl_v rfl rfl rfl (v_idx Try.underlying38 sz48 hr29.ad rfl rfl (by omega) (by omega)) ?_
      refine wl_v rfl rfl rfl (v_loadN (cs := fMv.enc _) agg48 rfl rfl (fun k u hu => H.cell (hr29.atN (i := i) (k := k) mv0 (by omega) hu))) ?_
      refine wl_alloc (cs := [.int .i64 0, .int .i64 0]) H rfl zv48 rfl ?_
      intro b6 w1 hb6 H2
      refine wl_store (vs := [_, _]) H2 (by repeat constructor) sz48 rfl rfl rfl rfl rfl (by repeat constructor) ?_
      intro w3 H4 hw3
      refine wl_nil ?_
      refine wc_seq ?_
      refine wc_region ?_
      refine wl_v rfl rfl rfl (v_fb (o2 := 1) fa48_1 rfl rfl) ?_
      refine wl_v rfl rfl rfl (v_load one3 rfl (H4.at (by repeat constructor) rfl)) ?_
      refine wl_v rfl rfl rfl (v_eql rfl rfl) ?_
      refine wl_v rfl rfl rfl (v_assign rfl) ?_
      refine wl_nil ?_
      refine wc_seq ?_
      refine wc_seq ?_
      refine wc_region ?_
      refine wl_v rfl rfl rfl (v_fb (o2 := 0) fa48_0 rfl rfl) ?_
      refine wl_v rfl rfl rfl (v_load one3 rfl (H4.at (by repeat constructor) rfl)) ?_
      refine wl_nil ?_
      refine wc_block ?_
      refine wc_seq ?_
      refine wc_region ?_
      refine wl_v rfl rfl rfl (v_eql rfl rfl) ?_
      refine wl_v rfl rfl rfl (v_assign rfl) ?_
      refine wl_nil ?_
      refine wc_cond rfl (fun c2 => ?_) (fun c2 => ?_)
      · have c2p := of_decide_eq_true c2
        refine wc_still mixed (by kernel_rfl) ?_
        have Hd := H4.drew
        refine ws_v rfl rfl rfl (v_fb (o2 := 1) fa48_1 rfl rfl) ?_
        refine ws_v rfl rfl rfl (v_load one3 rfl (Hd.at (by repeat constructor) rfl)) ?_
        refine ws_v rfl rfl rfl (v_geq rfl rfl) ?_
        refine ws_v rfl rfl rfl (v_move rfl) ?_
        refine ws_guard rfl rfl rfl (fun g45 => ?_) (fun g45 => ?_)
        · have g45p := of_decide_eq_true g45
          refine ws_v rfl rfl rfl (v_fb (o2 := 1) fa48_1 rfl rfl) ?_
          refine ws_on' rfl rfl g45 ?_
          refine ws_v rfl rfl rfl (v_load one3 rfl (Hd.at (by repeat constructor) rfl)) ?_
          refine ws_on' rfl rfl g45 ?_
          refine ws_v rfl rfl rfl (v_move rfl) ?_
          refine ws_on' rfl rfl g45 ?_
          refine ws_v rfl rfl rfl (v_nil rfl) ?_
          refine ws_on' rfl rfl g45 ?_
          refine ws_v rfl rfl rfl (v_fb (o2 := 0) fa83_0 rfl rfl) ?_
          refine ws_on' rfl rfl g45 ?_
          refine ws_v rfl rfl rfl (v_fb (o2 := 0) fa25_0 rfl rfl) ?_
          refine ws_on' rfl rfl g45 ?_
          refine ws_v rfl rfl rfl (v_load one22 rfl (Hd.cell (hc 0 _ rfl))) ?_
          refine ws_on' rfl rfl g45 ?_
          refine ws_v rfl rfl rfl (v_len Try.underlying22 rfl) ?_
          refine ws_on' rfl rfl g45 ?_
          refine ws_v rfl rfl rfl (v_lss rfl rfl) ?_
          refine ws_v rfl rfl rfl (v_pick_t rfl g45 rfl) ?_
          refine ws_v rfl rfl rfl (v_assign rfl) ?_
          refine ws_nil ?_
          refine wc_seq ?_
          refine wc_region ?_
          refine wl_v rfl rfl rfl (v_move rfl) ?_
          refine wl_v rfl rfl rfl (v_not rfl) ?_
          refine wl_nil ?_
          refine wc_cond rfl (fun c6 => ?_) (fun c6 => ?_)
          · have c6p := of_nd_t c6
            refine wc_seq ?_
            refine wc_region ?_
            refine wl_v rfl rfl rfl (v_assign rfl) ?_
            refine wl_nil ?_
            refine wc_ret ?_
            first
              | exact ⟨_, res1 rfl rfl, congrArg Value.bool (dec_t ⟨c0p, fun j hj => ha j (by omega)⟩).symm, Hd⟩
              | exact ⟨_, res1 rfl rfl, congrArg Value.bool (dec_f fun hh => c0p hh.1).symm, Hd.pm (by repeat constructor)⟩
              | exact ⟨_, res1 rfl rfl, congrArg Value.bool (dec_f fun hh => by have h5 := hh.2 i (by omega); unfold mvOk at h5; omega).symm, Hd.pm (by repeat constructor)⟩
          · have c6p := of_nd_f c6
            refine wc_skip ?_
            refine wc_region ?_
            refine wl_v rfl rfl rfl (v_addi rfl rfl (by omega)) ?_
            refine wl_v rfl rfl rfl (v_move rfl) ?_
            refine wl_nil ?_
            exact ⟨i + 1, (sc rfl (sc rfl (sc rfl (sc rfl (sn _))))), ⟨by omega, upto_succ ha (by unfold mvOk; omega), Hd.pm (by repeat constructor)⟩, by omega⟩
        · have g45p := of_decide_eq_false g45
          refine ws_off rfl rfl g45 rfl ?_
          refine ws_off rfl rfl g45 rfl ?_
          refine ws_off rfl rfl g45 rfl ?_
          refine ws_off rfl rfl g45 rfl ?_
          refine ws_off rfl rfl g45 rfl ?_
          refine ws_off rfl rfl g45 rfl ?_
          refine ws_off rfl rfl g45 rfl ?_
          refine ws_off rfl rfl g45 rfl ?_
          refine ws_v rfl rfl rfl (v_pick_f rfl g45 rfl) ?_
          refine ws_v rfl rfl rfl (v_assign rfl) ?_
          refine ws_nil ?_
          refine wc_seq ?_
          refine wc_region ?_
          refine wl_v rfl rfl rfl (v_move rfl) ?_
          refine wl_v rfl rfl rfl (v_not rfl) ?_
          refine wl_nil ?_
          refine wc_cond_t rfl ?_
          refine wc_seq ?_
          refine wc_region ?_
          refine wl_v rfl rfl rfl (v_assign rfl) ?_
          refine wl_nil ?_
          refine wc_ret ?_
          first
            | exact ⟨_, res1 rfl rfl, congrArg Value.bool (dec_t ⟨c0p, fun j hj => ha j (by omega)⟩).symm, Hd⟩
            | exact ⟨_, res1 rfl rfl, congrArg Value.bool (dec_f fun hh => c0p hh.1).symm, Hd.pm (by repeat constructor)⟩
            | exact ⟨_, res1 rfl rfl, congrArg Value.bool (dec_f fun hh => by have h5 := hh.2 i (by omega); unfold mvOk at h5; omega).symm, Hd.pm (by repeat constructor)⟩
      · have c2p := of_decide_eq_false c2
        refine wc_seq ?_
        refine wc_region ?_
        refine wl_v rfl rfl rfl (v_eql rfl rfl) ?_
        refine wl_v rfl rfl rfl (v_assign rfl) ?_
        refine wl_nil ?_
        refine wc_cond rfl (fun c3 => ?_) (fun c3 => ?_)
        · have c3p := of_decide_eq_true c3
          refine wc_still mixed (by kernel_rfl) ?_
          have Hd := H4.drew
          refine ws_v rfl rfl rfl (v_fb (o2 := 1) fa48_1 rfl rfl) ?_
          refine ws_v rfl rfl rfl (v_load one3 rfl (Hd.at (by repeat constructor) rfl)) ?_
          refine ws_v rfl rfl rfl (v_geq rfl rfl) ?_
          refine ws_v rfl rfl rfl (v_move rfl) ?_
          refine ws_guard rfl rfl rfl (fun g61 => ?_) (fun g61 => ?_)
          · have g61p := of_decide_eq_true g61
            refine ws_v rfl rfl rfl (v_fb (o2 := 1) fa48_1 rfl rfl) ?_
            refine ws_on' rfl rfl g61 ?_
            refine ws_v rfl rfl rfl (v_load one3 rfl (Hd.at (by repeat constructor) rfl)) ?_
            refine ws_on' rfl rfl g61 ?_
            refine ws_v rfl rfl rfl (v_move rfl) ?_
            refine ws_on' rfl rfl g61 ?_
            refine ws_v rfl rfl rfl (v_nil rfl) ?_
            refine ws_on' rfl rfl g61 ?_
            refine ws_v rfl rfl rfl (v_fb (o2 := 4) fa83_3 rfl rfl) ?_
            refine ws_on' rfl rfl g61 ?_
            refine ws_v rfl rfl rfl (v_load one3 rfl (Hd.cell (hc 4 _ rfl))) ?_
            refine ws_on' rfl rfl g61 ?_
            refine ws_v rfl rfl rfl (v_lss rfl rfl) ?_
            refine ws_v rfl rfl rfl (v_pick_t rfl g61 rfl) ?_
            refine ws_v rfl rfl rfl (v_assign rfl) ?_
            refine ws_nil ?_
            refine wc_seq ?_
            refine wc_region ?_
            refine wl_v rfl rfl rfl (v_move rfl) ?_
            refine wl_v rfl rfl rfl (v_not rfl) ?_
            refine wl_nil ?_
            refine wc_cond rfl (fun c6 => ?_) (fun c6 => ?_)
            · have c6p := of_nd_t c6
              refine wc_seq ?_
              refine wc_region ?_
              refine wl_v rfl rfl rfl (v_assign rfl) ?_
              refine wl_nil ?_
              refine wc_ret ?_
              first
                | exact ⟨_, res1 rfl rfl, congrArg Value.bool (dec_t ⟨c0p, fun j hj => ha j (by omega)⟩).symm, Hd⟩
                | exact ⟨_, res1 rfl rfl, congrArg Value.bool (dec_f fun hh => c0p hh.1).symm, Hd.pm (by repeat constructor)⟩
                | exact ⟨_, res1 rfl rfl, congrArg Value.bool (dec_f fun hh => by have h5 := hh.2 i (by omega); unfold mvOk at h5; omega).symm, Hd.pm (by repeat constructor)⟩
            · have c6p := of_nd_f c6
              refine wc_skip ?_
              refine wc_region ?_
              refine wl_v rfl rfl rfl (v_addi rfl rfl (by omega)) ?_
              refine wl_v rfl rfl rfl (v_move rfl) ?_
              refine wl_nil ?_
              exact ⟨i + 1, (sc rfl (sc rfl (sc rfl (sc rfl (sn _))))), ⟨by omega, upto_succ ha (by unfold mvOk; omega), Hd.pm (by repeat constructor)⟩, by omega⟩
          · have g61p := of_decide_eq_false g61
            refine ws_off rfl rfl g61 rfl ?_
            refine ws_off rfl rfl g61 rfl ?_
            refine ws_off rfl rfl g61 rfl ?_
            refine ws_off rfl rfl g61 rfl ?_
            refine ws_off rfl rfl g61 rfl ?_
            refine ws_off rfl rfl g61 rfl ?_
            refine ws_v rfl rfl rfl (v_pick_f rfl g61 rfl) ?_
            refine ws_v rfl rfl rfl (v_assign rfl) ?_
            refine ws_nil ?_
            refine wc_seq ?_
            refine wc_region ?_
            refine wl_v rfl rfl rfl (v_move rfl) ?_
            refine wl_v rfl rfl rfl (v_not rfl) ?_
            refine wl_nil ?_
            refine wc_cond_t rfl ?_
            refine wc_seq ?_
            refine wc_region ?_
            refine wl_v rfl rfl rfl (v_assign rfl) ?_
            refine wl_nil ?_
            refine wc_ret ?_
            first
              | exact ⟨_, res1 rfl rfl, congrArg Value.bool (dec_t ⟨c0p, fun j hj => ha j (by omega)⟩).symm, Hd⟩
              | exact ⟨_, res1 rfl rfl, congrArg Value.bool (dec_f fun hh => c0p hh.1).symm, Hd.pm (by repeat constructor)⟩
              | exact ⟨_, res1 rfl rfl, congrArg Value.bool (dec_f fun hh => by have h5 := hh.2 i (by omega); unfold mvOk at h5; omega).symm, Hd.pm (by repeat constructor)⟩
        · have c3p := of_decide_eq_false c3
          refine wc_seq ?_
          refine wc_seq ?_
          refine wc_region ?_
          refine wl_v rfl rfl rfl (v_eql rfl rfl) ?_
          refine wl_v rfl rfl rfl (v_assign rfl) ?_
          refine wl_nil ?_
          refine wc_cond rfl (fun c4 => ?_) (fun c4 => ?_)
          · have c4p := of_decide_eq_true c4
            refine wc_skip ?_
            refine wc_cond_y rfl c4 ?_
            refine wc_skip ?_
            refine wc_seq ?_
            refine wc_region ?_
            refine wl_v rfl rfl rfl (v_move rfl) ?_
            refine wl_v rfl rfl rfl (v_not rfl) ?_
            refine wl_nil ?_
            refine wc_cond rfl (fun c6 => ?_) (fun c6 => ?_)
            · have c6p := of_nd_t c6
              refine wc_seq ?_
              refine wc_region ?_
              refine wl_v rfl rfl rfl (v_assign rfl) ?_
              refine wl_nil ?_
              refine wc_ret ?_
              first
                | exact ⟨_, res1 rfl rfl, congrArg Value.bool (dec_t ⟨c0p, fun j hj => ha j (by omega)⟩).symm, H4⟩
                | exact ⟨_, res1 rfl rfl, congrArg Value.bool (dec_f fun hh => c0p hh.1).symm, H4.pm (by repeat constructor)⟩
                | exact ⟨_, res1 rfl rfl, congrArg Value.bool (dec_f fun hh => by have h5 := hh.2 i (by omega); unfold mvOk at h5; omega).symm, H4.pm (by repeat constructor)⟩
            · have c6p := of_nd_f c6
              refine wc_skip ?_
              refine wc_region ?_
              refine wl_v rfl rfl rfl (v_addi rfl rfl (by omega)) ?_
              refine wl_v rfl rfl rfl (v_move rfl) ?_
              refine wl_nil ?_
              exact ⟨i + 1, (sc rfl (sc rfl (sc rfl (sc rfl (sn _))))), ⟨by omega, upto_succ ha (by unfold mvOk; omega), H4.pm (by repeat constructor)⟩, by omega⟩
          · have c4p := of_decide_eq_false c4
            refine wc_region ?_
            refine wl_v rfl rfl rfl (v_eql rfl rfl) ?_
            refine wl_v rfl rfl rfl (v_assign rfl) ?_
            refine wl_nil ?_
            refine wc_cond rfl (fun c5 => ?_) (fun c5 => ?_)
            · have c5p := of_decide_eq_true c5
              refine wc_skip ?_
              refine wc_seq ?_
              refine wc_region ?_
              refine wl_v rfl rfl rfl (v_move rfl) ?_
              refine wl_v rfl rfl rfl (v_not rfl) ?_
              refine wl_nil ?_
              refine wc_cond rfl (fun c6 => ?_) (fun c6 => ?_)
              · have c6p := of_nd_t c6
                refine wc_seq ?_
                refine wc_region ?_
                refine wl_v rfl rfl rfl (v_assign rfl) ?_
                refine wl_nil ?_
                refine wc_ret ?_
                first
                  | exact ⟨_, res1 rfl rfl, congrArg Value.bool (dec_t ⟨c0p, fun j hj => ha j (by omega)⟩).symm, H4⟩
                  | exact ⟨_, res1 rfl rfl, congrArg Value.bool (dec_f fun hh => c0p hh.1).symm, H4.pm (by repeat constructor)⟩
                  | exact ⟨_, res1 rfl rfl, congrArg Value.bool (dec_f fun hh => by have h5 := hh.2 i (by omega); unfold mvOk at h5; omega).symm, H4.pm (by repeat constructor)⟩
              · have c6p := of_nd_f c6
                refine wc_skip ?_
                refine wc_region ?_
                refine wl_v rfl rfl rfl (v_addi rfl rfl (by omega)) ?_
                refine wl_v rfl rfl rfl (v_move rfl) ?_
                refine wl_nil ?_
                exact ⟨i + 1, (sc rfl (sc rfl (sc rfl (sc rfl (sn _))))), ⟨by omega, upto_succ ha (by unfold mvOk; omega), H4.pm (by repeat constructor)⟩, by omega⟩
            · have c5p := of_decide_eq_false c5
              refine wc_region ?_
              refine wl_v rfl rfl rfl (v_assign rfl) ?_
              refine wl_nil ?_
              refine wc_seq ?_
              refine wc_region ?_
              refine wl_v rfl rfl rfl (v_move rfl) ?_
              refine wl_v rfl rfl rfl (v_not rfl) ?_
              refine wl_nil ?_
              refine wc_cond_t rfl ?_
              refine wc_seq ?_
              refine wc_region ?_
              refine wl_v rfl rfl rfl (v_assign rfl) ?_
              refine wl_nil ?_
              refine wc_ret ?_
              first
                | exact ⟨_, res1 rfl rfl, congrArg Value.bool (dec_t ⟨c0p, fun j hj => ha j (by omega)⟩).symm, H4⟩
                | exact ⟨_, res1 rfl rfl, congrArg Value.bool (dec_f fun hh => c0p hh.1).symm, H4.pm (by repeat constructor)⟩
                | exact ⟨_, res1 rfl rfl, congrArg Value.bool (dec_f fun hh => by have h5 := hh.2 i (by omega); unfold mvOk at h5; omega).symm, H4.pm (by repeat constructor)⟩
    · have c1p := of_decide_eq_false c1
      refine wc_exit ?_
      refine wc_seq ?_
      refine wc_region ?_
      refine wl_v rfl rfl rfl (v_assign rfl) ?_
      refine wl_nil ?_
      refine wc_ret ?_
      first
        | exact ⟨_, res1 rfl rfl, congrArg Value.bool (dec_t ⟨c0p, fun j hj => ha j (by omega)⟩).symm, H⟩
        | exact ⟨_, res1 rfl rfl, congrArg Value.bool (dec_f fun hh => c0p hh.1).symm, H.pm (by repeat constructor)⟩
        | exact ⟨_, res1 rfl rfl, congrArg Value.bool (dec_f fun hh => by have h5 := hh.2 i (by omega); unfold mvOk at h5; omega).symm, H.pm (by repeat constructor)⟩

set_option maxRecDepth 100000 in
theorem cgotos_calls {A B : Option Addr} {ca cb b s0 : Nat} {t : Tb} {k r p : Int} {ec : Value} {w : World} (hx : t.rd w A B) (hk : t.ok) (hs0 : s0 < t.go.length) (hc : ∀ j v, ([.slice A t.mv.length ca, .slice B t.go.length cb, .int .i64 k, .int .i64 r, .int .i64 p, ec] : List Value)[j]? = some v → w.cell? ⟨b, j, none⟩ = some v) :
    Calls Try.prog 37 #[.pointer (some ⟨b, 0, none⟩), .int .i64 s0] w fun e w' => ∃ v, e = .returned v ∧ v = .bool (dec (((t.go.getD s0 []).length : Int) = r ∧ ∀ j, j < (t.go.getD s0 []).length → goOk ((t.go.getD s0 []).getD j 0) t.mv.length)) ∧ Holds w [] w' := by
  have hM := hx.m
  have hG := hx.g
  have q1 := hk.m'
  have q2 := hk.g'
  have q3 := hk.gl (i := s0) (by omega)
  refine calls_of Try.func37 rfl Try.ntmps37 rfl ?_
  have H := Holds.start w
  refine wc_seq ?_
  refine wc_region ?_
  refine wl_v rfl rfl rfl (v_assign rfl) ?_
  refine wl_nil ?_
  refine wc_seq ?_
  refine wc_seq ?_
  refine wc_still mixed (by kernel_rfl) ?_
  have Hd := H.drew
  refine ws_v rfl rfl rfl (v_move rfl) ?_
  refine ws_v rfl rfl rfl (v_nil rfl) ?_
  refine ws_v rfl rfl rfl (v_fb (o2 := 0) fa83_0 rfl rfl) ?_
  refine ws_v rfl rfl rfl (v_fb (o2 := 1) fa25_1 rfl rfl) ?_
  refine ws_v rfl rfl rfl (v_load one23 rfl (Hd.cell (hc 1 _ rfl))) ?_
  refine ws_v rfl rfl rfl (v_move rfl) ?_
  refine ws_v rfl rfl rfl (v_idx Try.underlying23 sz39 hG.ad rfl rfl (by omega) (by omega)) ?_
  obtain ⟨B14, cp14, hc14, hl14, hr14⟩ := hG.atSlN (i := s0) (by omega)
  refine ws_v rfl rfl rfl (v_load one39 rfl (Hd.cell (hc14))) ?_
  refine ws_v rfl rfl rfl (v_len Try.underlying39 rfl) ?_
  refine ws_v rfl rfl rfl (v_move rfl) ?_
  refine ws_v rfl rfl rfl (v_nil rfl) ?_
  refine ws_v rfl rfl rfl (v_fb (o2 := 3) fa83_2 rfl rfl) ?_
  refine ws_v rfl rfl rfl (v_load one3 rfl (Hd.cell (hc 3 _ rfl))) ?_
  refine ws_v rfl rfl rfl (v_neq rfl rfl) ?_
  refine ws_nil ?_
  refine wc_cond rfl (fun c0 => ?_) (fun c0 => ?_)
  · have c0p := of_nd_t c0
    refine wc_seq ?_
    refine wc_region ?_
    refine wl_v rfl rfl rfl (v_assign rfl) ?_
    refine wl_nil ?_
    refine wc_ret ?_
    first
      | exact ⟨_, res1 rfl rfl, congrArg Value.bool (dec_t ⟨c0p, fun j hj => ha j (by omega)⟩).symm, Hd⟩
      | exact ⟨_, res1 rfl rfl, congrArg Value.bool (dec_f fun hh => c0p hh.1).symm, Hd.pm (by repeat constructor)⟩
      | exact ⟨_, res1 rfl rfl, congrArg Value.bool (dec_f fun hh => by have h5 := hh.2 i (by omega); unfold goOk at h5; omega).symm, Hd.pm (by repeat constructor)⟩
  · have c0p := of_nd_f c0
    refine wc_skip ?_
    refine wc_seq ?_
    refine wc_seq ?_
    refine wc_region ?_
    refine wl_v rfl rfl rfl (v_move rfl) ?_
    refine wl_v rfl rfl rfl (v_nil rfl) ?_
    refine wl_v rfl rfl rfl (v_fb (o2 := 0) fa83_0 rfl rfl) ?_
    refine wl_v rfl rfl rfl (v_fb (o2 := 1) fa25_1 rfl rfl) ?_
    refine wl_v rfl rfl rfl (v_load one23 rfl (Hd.cell (hc 1 _ rfl))) ?_
    refine wl_v rfl rfl rfl (v_move rfl) ?_
    refine wl_v rfl rfl rfl (v_idx Try.underlying23 sz39 hG.ad rfl rfl (by omega) (by omega)) ?_
    obtain ⟨B28, cp28, hc28, hl28, hr28⟩ := hG.atSlN (i := s0) (by omega)
    refine wl_v rfl rfl rfl (v_load one39 rfl (Hd.cell (hc28))) ?_
    refine wl_v rfl rfl rfl (v_len Try.underlying39 rfl) ?_
    refine wl_v rfl rfl rfl (v_move rfl) ?_
    refine wl_nil ?_
    refine wc_block ?_
    refine wc_loop (σ := Nat) (fun s => [(0, .pointer (some ⟨b, 0, none⟩)), (28, .slice B28 (t.go.getD s0 []).length cp28), (29, .int .i64 (t.go.getD s0 []).length), (30, .int .i64 s)]) (fun s W => s ≤ (t.go.getD s0 []).length ∧ (∀ j, j < s → goOk ((t.go.getD s0 []).getD j 0) t.mv.length) ∧ Holds w [] W) (fun s => (t.go.getD s0 []).length - s) 0 (sc rfl (sc rfl (sc rfl (sc rfl (sn _))))) ⟨Nat.zero_le _, upto_zero, Hd⟩ ?_
    rintro i W0 ⟨hi, ha, H⟩
    refine wc_seq ?_
    refine wc_region ?_
    refine wl_v rfl rfl rfl (v_lss rfl rfl) ?_
    refine wl_nil ?_
    refine wc_seq ?_
    refine wc_cond rfl (fun c1 => ?_) (fun c1 => ?_)
    · have c1p := of_decide_eq_true c1
      refine wc_skip ?_
      refine wc_seq ?_
      refine wc_block ?_
      refine wc_seq ?_
      refine wc_region ?_
      refine wl_v rfl rfl rfl (v_idx Try.underlying39 sz3 hr28.ad rfl rfl (by omega) (by omega)) ?_
      refine wl_v rfl rfl rfl (v_load one3 rfl (H.cell (hr28.at1N (i := i) (by omega)))) ?_
      refine wl_v rfl rfl rfl (v_assign rfl) ?_
      refine wl_nil ?_
      refine wc_seq ?_
      refine wc_region ?_
      refine wl_v rfl rfl rfl (v_move rfl) ?_
      refine wl_v rfl rfl rfl (v_lss rfl rfl) ?_
      refine wl_v rfl rfl rfl (v_move rfl) ?_
      refine wl_guard rfl rfl rfl (fun g36 => ?_) (fun g36 => ?_)
      · have g36p := of_decide_eq_false g36
        refine wl_v rfl rfl rfl (v_move rfl) ?_
        refine wl_on' rfl rfl g36 ?_
        refine wl_v rfl rfl rfl (v_move rfl) ?_
        refine wl_on' rfl rfl g36 ?_
        refine wl_v rfl rfl rfl (v_nil rfl) ?_
        refine wl_on' rfl rfl g36 ?_
        refine wl_v rfl rfl rfl (v_fb (o2 := 0) fa83_0 rfl rfl) ?_
        refine wl_on' rfl rfl g36 ?_
        refine wl_v rfl rfl rfl (v_fb (o2 := 0) fa25_0 rfl rfl) ?_
        refine wl_on' rfl rfl g36 ?_
        refine wl_v rfl rfl rfl (v_load one22 rfl (H.cell (hc 0 _ rfl))) ?_
        refine wl_on' rfl rfl g36 ?_
        refine wl_v rfl rfl rfl (v_len Try.underlying22 rfl) ?_
        refine wl_on' rfl rfl g36 ?_
        refine wl_v rfl rfl rfl (v_geq rfl rfl) ?_
        refine wl_v rfl rfl rfl (v_pick_f rfl g36 rfl) ?_
        refine wl_nil ?_
        refine wc_cond rfl (fun c2 => ?_) (fun c2 => ?_)
        · have c2p := of_decide_eq_true c2
          refine wc_seq ?_
          refine wc_region ?_
          refine wl_v rfl rfl rfl (v_assign rfl) ?_
          refine wl_nil ?_
          refine wc_ret ?_
          first
            | exact ⟨_, res1 rfl rfl, congrArg Value.bool (dec_t ⟨c0p, fun j hj => ha j (by omega)⟩).symm, H⟩
            | exact ⟨_, res1 rfl rfl, congrArg Value.bool (dec_f fun hh => c0p hh.1).symm, H.pm (by repeat constructor)⟩
            | exact ⟨_, res1 rfl rfl, congrArg Value.bool (dec_f fun hh => by have h5 := hh.2 i (by omega); unfold goOk at h5; omega).symm, H.pm (by repeat constructor)⟩
        · have c2p := of_decide_eq_false c2
          refine wc_skip ?_
          refine wc_region ?_
          refine wl_v rfl rfl rfl (v_addi rfl rfl (by omega)) ?_
          refine wl_v rfl rfl rfl (v_move rfl) ?_
          refine wl_nil ?_
          exact ⟨i + 1, (sc rfl (sc rfl (sc rfl (sc rfl (sn _))))), ⟨by omega, upto_succ ha (by unfold goOk; omega), H.pm (by repeat constructor)⟩, by omega⟩
      · have g36p := of_decide_eq_true g36
        refine wl_off rfl rfl g36 rfl ?_
        refine wl_off rfl rfl g36 rfl ?_
        refine wl_off rfl rfl g36 rfl ?_
        refine wl_off rfl rfl g36 rfl ?_
        refine wl_off rfl rfl g36 rfl ?_
        refine wl_off rfl rfl g36 rfl ?_
        refine wl_off rfl rfl g36 rfl ?_
        refine wl_v rfl rfl rfl (v_pick_t rfl g36 rfl) ?_
        refine wl_nil ?_
        refine wc_cond_t rfl ?_
        refine wc_seq ?_
        refine wc_region ?_
        refine wl_v rfl rfl rfl (v_assign rfl) ?_
        refine wl_nil ?_
        refine wc_ret ?_
        first
          | exact ⟨_, res1 rfl rfl, congrArg Value.bool (dec_t ⟨c0p, fun j hj => ha j (by omega)⟩).symm, H⟩
          | exact ⟨_, res1 rfl rfl, congrArg Value.bool (dec_f fun hh => c0p hh.1).symm, H.pm (by repeat constructor)⟩
          | exact ⟨_, res1 rfl rfl, congrArg Value.bool (dec_f fun hh => by have h5 := hh.2 i (by omega); unfold goOk at h5; omega).symm, H.pm (by repeat constructor)⟩
    · have c1p := of_decide_eq_false c1
      refine wc_exit ?_
      refine wc_seq ?_
      refine wc_region ?_
      refine wl_v rfl rfl rfl (v_assign rfl) ?_
      refine wl_nil ?_
      refine wc_ret ?_
      first
        | exact ⟨_, res1 rfl rfl, congrArg Value.bool (dec_t ⟨c0p, fun j hj => ha j (by omega)⟩).symm, H⟩
        | exact ⟨_, res1 rfl rfl, congrArg Value.bool (dec_f fun hh => c0p hh.1).symm, H.pm (by repeat constructor)⟩
        | exact ⟨_, res1 rfl rfl, congrArg Value.bool (dec_f fun hh => by have h5 := hh.2 i (by omega); unfold goOk at h5; omega).symm, H.pm (by repeat constructor)⟩

set_option maxRecDepth 100000 in
theorem check_calls {A B : Option Addr} {ca cb : Nat} {t : Tb} {k r p : Int} {w : World} (hx : t.rd w A B) (hk : t.ok) :
    Calls Try.prog 12 #[t.val A B ca cb, .int .i64 k, .int .i64 r, .int .i64 p] w fun e w' => ∃ v, e = .returned v ∧ v = .int .i64 (checkF t k r p) ∧ Holds w [] w' := by
  have q1 := hk.m'
  have q2 := hk.g'
  refine calls_of Try.func12 rfl Try.ntmps12 rfl ?_
  have H := Holds.start w
  refine wc_seq ?_
  refine wc_region ?_
  refine wl_box (cs := [_, _]) H rfl rfl rfl ?_
  intro b4 w1 hb4 H2
  refine wl_v rfl rfl rfl (v_assign rfl) ?_
  refine wl_nil ?_
  refine wc_seq ?_
  refine wc_seq ?_
  refine wc_region ?_
  refine wl_v rfl rfl rfl (v_move rfl) ?_
  refine wl_v rfl rfl rfl (v_lss rfl rfl) ?_
  refine wl_v rfl rfl rfl (v_move rfl) ?_
  refine wl_guard rfl rfl rfl (fun g15 => ?_) (fun g15 => ?_)
  · have g15p := of_decide_eq_false g15
    refine wl_v rfl rfl rfl (v_move rfl) ?_
    refine wl_on' rfl rfl g15 ?_
    refine wl_v rfl rfl rfl (v_lss rfl rfl) ?_
    refine wl_v rfl rfl rfl (v_pick_f rfl g15 rfl) ?_
    refine wl_v rfl rfl rfl (v_move rfl) ?_
    refine wl_guard rfl rfl rfl (fun g19 => ?_) (fun g19 => ?_)
    · have g19p := of_decide_eq_false g19
      refine wl_v rfl rfl rfl (v_move rfl) ?_
      refine wl_on' rfl rfl g19 ?_
      refine wl_v rfl rfl rfl (v_lss rfl rfl) ?_
      refine wl_v rfl rfl rfl (v_pick_f rfl g19 rfl) ?_
      refine wl_nil ?_
      refine wc_cond rfl (fun c0 => ?_) (fun c0 => ?_)
      · have c0p := of_decide_eq_true c0
        refine wc_seq ?_
        refine wc_region ?_
        refine wl_v rfl rfl rfl (v_assign rfl) ?_
        refine wl_nil ?_
        refine wc_ret ?_
        first
          | exact ⟨_, res1 rfl rfl, congrArg (Value.int .i64) (checkF_arg (by omega)).symm, H2.pm (by repeat constructor)⟩
          | exact ⟨_, res1 rfl rfl, congrArg (Value.int .i64) (checkF_ok (by omega) ⟨by omega, by omega, by omega, fun s hs => ha s (by omega)⟩).symm, H2.pm (by repeat constructor)⟩
          | exact ⟨_, res1 rfl rfl, congrArg (Value.int .i64) (checkF_bad (by omega) fun hg => by obtain ⟨p1, p2, p3, p4⟩ := hg; omega).symm, H2.pm (by repeat constructor)⟩
          | exact ⟨_, res1 rfl rfl, congrArg (Value.int .i64) (checkF_bad (by omega) fun hg => by obtain ⟨p5, p6, p7, p8⟩ := hg.2.2.2 i (by omega); exact of_ndec c4p ⟨p5, p7⟩).symm, H2.pm (by repeat constructor)⟩
          | exact ⟨_, res1 rfl rfl, congrArg (Value.int .i64) (checkF_bad (by omega) fun hg => by obtain ⟨p5, p6, p7, p8⟩ := hg.2.2.2 i (by omega); exact of_ndec c4p ⟨p6, p8⟩).symm, H2.pm (by repeat constructor)⟩
      · have c0p := of_decide_eq_false c0
        refine wc_skip ?_
        refine wc_seq ?_
        refine wc_seq ?_
        refine wc_region ?_
        refine wl_v rfl rfl rfl (v_fb (o2 := 0) fa25_0 rfl rfl) ?_
        refine wl_v rfl rfl rfl (v_load one22 rfl (H2.at (by repeat constructor) rfl)) ?_
        refine wl_v rfl rfl rfl (v_len Try.underlying22 rfl) ?_
        refine wl_v rfl rfl rfl (v_lss rfl rfl) ?_
        refine wl_v rfl rfl rfl (v_move rfl) ?_
        refine wl_guard rfl rfl rfl (fun g27 => ?_) (fun g27 => ?_)
        · have g27p := of_decide_eq_false g27
          refine wl_v rfl rfl rfl (v_fb (o2 := 0) fa25_0 rfl rfl) ?_
          refine wl_on' rfl rfl g27 ?_
          refine wl_v rfl rfl rfl (v_load one22 rfl (H2.at (by repeat constructor) rfl)) ?_
          refine wl_on' rfl rfl g27 ?_
          refine wl_v rfl rfl rfl (v_len Try.underlying22 rfl) ?_
          refine wl_on' rfl rfl g27 ?_
          refine wl_v rfl rfl rfl (v_gtr rfl rfl) ?_
          refine wl_v rfl rfl rfl (v_pick_f rfl g27 rfl) ?_
          refine wl_v rfl rfl rfl (v_move rfl) ?_
          refine wl_guard rfl rfl rfl (fun g33 => ?_) (fun g33 => ?_)
          · have g33p := of_decide_eq_false g33
            refine wl_v rfl rfl rfl (v_fb (o2 := 1) fa25_1 rfl rfl) ?_
            refine wl_on' rfl rfl g33 ?_
            refine wl_v rfl rfl rfl (v_load one23 rfl (H2.at (by repeat constructor) rfl)) ?_
            refine wl_on' rfl rfl g33 ?_
            refine wl_v rfl rfl rfl (v_len Try.underlying23 rfl) ?_
            refine wl_on' rfl rfl g33 ?_
            refine wl_v rfl rfl rfl (v_fb (o2 := 0) fa25_0 rfl rfl) ?_
            refine wl_on' rfl rfl g33 ?_
            refine wl_v rfl rfl rfl (v_load one22 rfl (H2.at (by repeat constructor) rfl)) ?_
            refine wl_on' rfl rfl g33 ?_
            refine wl_v rfl rfl rfl (v_len Try.underlying22 rfl) ?_
            refine wl_on' rfl rfl g33 ?_
            refine wl_v rfl rfl rfl (v_neq rfl rfl) ?_
            refine wl_v rfl rfl rfl (v_pick_f rfl g33 rfl) ?_
            refine wl_nil ?_
            refine wc_cond rfl (fun c1 => ?_) (fun c1 => ?_)
            · have c1p := of_nd_t c1
              refine wc_seq ?_
              refine wc_region ?_
              refine wl_v rfl rfl rfl (v_assign rfl) ?_
              refine wl_nil ?_
              refine wc_ret ?_
              first
                | exact ⟨_, res1 rfl rfl, congrArg (Value.int .i64) (checkF_arg (by omega)).symm, H2.pm (by repeat constructor)⟩
                | exact ⟨_, res1 rfl rfl, congrArg (Value.int .i64) (checkF_ok (by omega) ⟨by omega, by omega, by omega, fun s hs => ha s (by omega)⟩).symm, H2.pm (by repeat constructor)⟩
                | exact ⟨_, res1 rfl rfl, congrArg (Value.int .i64) (checkF_bad (by omega) fun hg => by obtain ⟨p1, p2, p3, p4⟩ := hg; omega).symm, H2.pm (by repeat constructor)⟩
                | exact ⟨_, res1 rfl rfl, congrArg (Value.int .i64) (checkF_bad (by omega) fun hg => by obtain ⟨p5, p6, p7, p8⟩ := hg.2.2.2 i (by omega); exact of_ndec c4p ⟨p5, p7⟩).symm, H2.pm (by repeat constructor)⟩
                | exact ⟨_, res1 rfl rfl, congrArg (Value.int .i64) (checkF_bad (by omega) fun hg => by obtain ⟨p5, p6, p7, p8⟩ := hg.2.2.2 i (by omega); exact of_ndec c4p ⟨p6, p8⟩).symm, H2.pm (by repeat constructor)⟩
            · have c1p := of_nd_f c1
              refine wc_skip ?_
              refine wc_seq ?_
              refine wc_region ?_
              refine wl_v rfl rfl rfl (v_loadN agg25 rfl rfl (H2.ats (by repeat constructor))) ?_
              refine wl_v rfl rfl rfl (v_move rfl) ?_
              refine wl_v rfl rfl rfl (v_move rfl) ?_
              refine wl_v rfl rfl rfl (v_move rfl) ?_
              refine wl_v rfl rfl rfl (v_bld ba83 rfl (by repeat constructor)) ?_
              refine wl_box (cs := [_, _, _, _, _, _]) H2 rfl rfl rfl ?_
              intro b47 w3 hb47 H4
              refine wl_v rfl rfl rfl (v_assign rfl) ?_
              refine wl_nil ?_
              refine wc_seq ?_
              refine wc_region ?_
              refine wl_v rfl rfl rfl (v_move rfl) ?_
              refine wl_v rfl rfl rfl (v_move rfl) ?_
              refine wl_v rfl rfl rfl (v_fn rfl rfl) ?_
              refine wl_v rfl rfl rfl (v_move rfl) ?_
              refine wl_v rfl rfl rfl (v_fn rfl rfl) ?_
              refine wl_slit (v := .nilFunc) (z := [.nilFunc, .nilFunc]) (cs := [.func (.func 36) #[.pointer (some ⟨b47, 0, none⟩)] #[], .func (.func 37) #[.pointer (some ⟨b47, 0, none⟩)] #[]]) (sz := 1) H4 rfl Try.underlying81 sz84 zv84 (by decide) (by decide) (by kernel_rfl) rfl (by repeat constructor) ?_
              intro b53 w5 hb53 H5 hs5
              refine wl_v rfl rfl rfl (v_nil rfl) ?_
              refine wl_v rfl rfl rfl (v_fb (o2 := 5) fa83_4 rfl rfl) ?_
              refine wl_store (vs := [_]) H5 (by repeat constructor) sz81 rfl rfl rfl rfl rfl (by repeat constructor) ?_
              intro w6 H7 hw6
              refine wl_nil ?_
              refine wc_seq ?_
              refine wc_seq ?_
              refine wc_region ?_
              refine wl_v rfl rfl rfl (v_fb (o2 := 0) fa25_0 rfl rfl) ?_
              refine wl_v rfl rfl rfl (v_load one22 rfl (H7.at (by repeat constructor) rfl)) ?_
              refine wl_v rfl rfl rfl (v_len Try.underlying22 rfl) ?_
              refine wl_v rfl rfl rfl (v_move rfl) ?_
              refine wl_nil ?_
              refine wc_block ?_
              refine wc_loop (σ := Nat) (fun s => [(4, .pointer (some ⟨b4, 0, none⟩)), (9, .pointer (some ⟨b47, 0, none⟩)), (58, .int .i64 t.mv.length), (59, .int .i64 s)]) (fun s W => s ≤ t.mv.length ∧ (∀ s', s' < s → rowOk t k r p s') ∧ Holds w [Blk b53 84 [.func (.func 36) #[.pointer (some ⟨b47, 0, none⟩)] #[], .func (.func 37) #[.pointer (some ⟨b47, 0, none⟩)] #[]], Blk b47 83 [.slice A t.mv.length ca, .slice B t.go.length cb, .int .i64 k, .int .i64 r, .int .i64 p, .slice (some ⟨b53, 0, none⟩) 2 2], Blk b4 25 [.slice A t.mv.length ca, .slice B t.go.length cb]] W) (fun s => t.mv.length - s) 0 (sc rfl (sc rfl (sc rfl (sc rfl (sn _))))) ⟨Nat.zero_le _, upto_zero, H7.pm (by repeat constructor)⟩ ?_
              rintro i W0 ⟨hi, ha, H⟩
              refine wc_seq ?_
              refine wc_region ?_
              refine wl_v rfl rfl rfl (v_lss rfl rfl) ?_
              refine wl_nil ?_
              refine wc_seq ?_
              refine wc_cond rfl (fun c2 => ?_) (fun c2 => ?_)
              · have c2p := of_decide_eq_true c2
                refine wc_skip ?_
                refine wc_seq ?_
                refine wc_block ?_
                refine wc_seq ?_
                refine wc_region ?_
                refine wl_v rfl rfl rfl (v_move rfl) ?_
                refine wl_v rfl rfl rfl (v_assign rfl) ?_
                refine wl_nil ?_
                refine wc_seq ?_
                refine wc_region ?_
                refine wl_v rfl rfl rfl (v_move rfl) ?_
                refine wl_v rfl rfl rfl (v_nil rfl) ?_
                refine wl_v rfl rfl rfl (v_fb (o2 := 5) fa83_4 rfl rfl) ?_
                refine wl_v rfl rfl rfl (v_load one81 rfl (H.at (by repeat constructor) rfl)) ?_
                refine wl_v rfl rfl rfl (v_len Try.underlying81 rfl) ?_
                refine wl_v rfl rfl rfl (v_move rfl) ?_
                refine wl_nil ?_
                refine wc_block ?_
                refine wc_loop (σ := Nat) (fun s => [(4, .pointer (some ⟨b4, 0, none⟩)), (9, .pointer (some ⟨b47, 0, none⟩)), (10, .int .i64 i), (58, .int .i64 t.mv.length), (59, .int .i64 i), (65, .slice (some ⟨b53, 0, none⟩) 2 2), (66, .int .i64 2), (67, .int .i64 s)]) (fun s W => s ≤ 2 ∧ (1 ≤ s → ((t.mv.getD i []).length : Int) = k ∧ ∀ j, j < (t.mv.getD i []).length → mvOk ((t.mv.getD i []).getD j mv0) t.mv.length p) ∧ (2 ≤ s → ((t.go.getD i []).length : Int) = r ∧ ∀ j, j < (t.go.getD i []).length → goOk ((t.go.getD i []).getD j 0) t.mv.length) ∧ Holds w [Blk b53 84 [.func (.func 36) #[.pointer (some ⟨b47, 0, none⟩)] #[], .func (.func 37) #[.pointer (some ⟨b47, 0, none⟩)] #[]], Blk b47 83 [.slice A t.mv.length ca, .slice B t.go.length cb, .int .i64 k, .int .i64 r, .int .i64 p, .slice (some ⟨b53, 0, none⟩) 2 2], Blk b4 25 [.slice A t.mv.length ca, .slice B t.go.length cb]] W) (fun s => 2 - s) 0 (sc rfl (sc rfl (sc rfl (sc rfl (sc rfl (sc rfl (sc rfl (sc rfl (sn _))))))))) ⟨Nat.zero_le _, fun h => absurd h (by omega), fun h => absurd h (by omega), H⟩ ?_
                rintro q W1 ⟨hq, h1, h2, H⟩
                refine wc_seq ?_
                refine wc_region ?_
                refine wl_v rfl rfl rfl (v_lss rfl rfl) ?_
                refine wl_nil ?_
                refine wc_seq ?_
                refine wc_cond rfl (fun c3 => ?_) (fun c3 => ?_)
                · have c3p := of_decide_eq_true c3
                  have hs2 : q = 0 ∨ q = 1 := by omega
                  rcases hs2 with rfl | rfl
                  · refine wc_skip ?_
                    refine wc_seq ?_
                    refine wc_block ?_
                    refine wc_seq ?_
                    refine wc_region ?_
                    refine wl_v rfl rfl rfl (v_idx Try.underlying81 sz84 (fun _ => rfl) rfl rfl (by omega) (by omega)) ?_
                    refine wl_v rfl rfl rfl (v_load one84 rfl (H.ats (by repeat constructor) 0 _ rfl)) ?_
                    refine wl_v rfl rfl rfl (v_assign rfl) ?_
                    refine wl_nil ?_
                    refine wc_seq ?_
                    refine wc_region ?_
                    refine wl_v rfl rfl rfl (v_move rfl) ?_
                    refine wl_v rfl rfl rfl (v_move rfl) ?_
                    refine wl_callv (first := [.pointer (some ⟨b47, 0, none⟩)]) (captured := []) en36 rfl rfl rfl (cmoves_calls (hx.below H.old) hk (s0 := i) (by omega) (b := b47) (k := k) (r := r) (p := p) (fun j v hv => H.at (by repeat constructor) hv)) ?_
                    rintro _ w8 ⟨rfl, Hc⟩
                    have H9 := H.call Hc
                    refine wl_v rfl rfl rfl (v_not rfl) ?_
                    refine wl_nil ?_
                    refine wc_cond rfl (fun c4 => ?_) (fun c4 => ?_)
                    · have c4p := of_n_t c4
                      refine wc_seq ?_
                      refine wc_region ?_
                      refine wl_v rfl rfl rfl (v_assign rfl) ?_
                      refine wl_nil ?_
                      refine wc_ret ?_
                      first
                        | exact ⟨_, res1 rfl rfl, congrArg (Value.int .i64) (checkF_arg (by omega)).symm, H9.pm (by repeat constructor)⟩
                        | exact ⟨_, res1 rfl rfl, congrArg (Value.int .i64) (checkF_ok (by omega) ⟨by omega, by omega, by omega, fun s hs => ha s (by omega)⟩).symm, H9.pm (by repeat constructor)⟩
                        | exact ⟨_, res1 rfl rfl, congrArg (Value.int .i64) (checkF_bad (by omega) fun hg => by obtain ⟨p1, p2, p3, p4⟩ := hg; omega).symm, H9.pm (by repeat constructor)⟩
                        | exact ⟨_, res1 rfl rfl, congrArg (Value.int .i64) (checkF_bad (by omega) fun hg => by obtain ⟨p5, p6, p7, p8⟩ := hg.2.2.2 i (by omega); exact of_ndec c4p ⟨p5, p7⟩).symm, H9.pm (by repeat constructor)⟩
                        | exact ⟨_, res1 rfl rfl, congrArg (Value.int .i64) (checkF_bad (by omega) fun hg => by obtain ⟨p5, p6, p7, p8⟩ := hg.2.2.2 i (by omega); exact of_ndec c4p ⟨p6, p8⟩).symm, H9.pm (by repeat constructor)⟩
                    · have c4p := of_n_f c4
                      refine wc_skip ?_
                      refine wc_region ?_
                      refine wl_v rfl rfl rfl (v_addi rfl rfl (by omega)) ?_
                      refine wl_v rfl rfl rfl (v_move rfl) ?_
                      refine wl_nil ?_
                      exact ⟨1, (sc rfl (sc rfl (sc rfl (sc rfl (sc rfl (sc rfl (sc rfl (sc rfl (sn _))))))))), ⟨by omega, fun _ => of_dec c4p, fun h => absurd h (by omega), H9⟩, by omega⟩
                  · refine wc_skip ?_
                    refine wc_seq ?_
                    refine wc_block ?_
                    refine wc_seq ?_
                    refine wc_region ?_
                    refine wl_v rfl rfl rfl (v_idx Try.underlying81 sz84 (fun _ => rfl) rfl rfl (by omega) (by omega)) ?_
                    refine wl_v rfl rfl rfl (v_load one84 rfl (H.ats (by repeat constructor) 1 _ rfl)) ?_
                    refine wl_v rfl rfl rfl (v_assign rfl) ?_
                    refine wl_nil ?_
                    refine wc_seq ?_
                    refine wc_region ?_
                    refine wl_v rfl rfl rfl (v_move rfl) ?_
                    refine wl_v rfl rfl rfl (v_move rfl) ?_
                    refine wl_callv (first := [.pointer (some ⟨b47, 0, none⟩)]) (captured := []) en37 rfl rfl rfl (cgotos_calls (hx.below H.old) hk (s0 := i) (by omega) (b := b47) (k := k) (r := r) (p := p) (fun j v hv => H.at (by repeat constructor) hv)) ?_
                    rintro _ w10 ⟨rfl, Hc⟩
                    have H11 := H.call Hc
                    refine wl_v rfl rfl rfl (v_not rfl) ?_
                    refine wl_nil ?_
                    refine wc_cond rfl (fun c4 => ?_) (fun c4 => ?_)
                    · have c4p := of_n_t c4
                      refine wc_seq ?_
                      refine wc_region ?_
                      refine wl_v rfl rfl rfl (v_assign rfl) ?_
                      refine wl_nil ?_
                      refine wc_ret ?_
                      first
                        | exact ⟨_, res1 rfl rfl, congrArg (Value.int .i64) (checkF_arg (by omega)).symm, H11.pm (by repeat constructor)⟩
                        | exact ⟨_, res1 rfl rfl, congrArg (Value.int .i64) (checkF_ok (by omega) ⟨by omega, by omega, by omega, fun s hs => ha s (by omega)⟩).symm, H11.pm (by repeat constructor)⟩
                        | exact ⟨_, res1 rfl rfl, congrArg (Value.int .i64) (checkF_bad (by omega) fun hg => by obtain ⟨p1, p2, p3, p4⟩ := hg; omega).symm, H11.pm (by repeat constructor)⟩
                        | exact ⟨_, res1 rfl rfl, congrArg (Value.int .i64) (checkF_bad (by omega) fun hg => by obtain ⟨p5, p6, p7, p8⟩ := hg.2.2.2 i (by omega); exact of_ndec c4p ⟨p5, p7⟩).symm, H11.pm (by repeat constructor)⟩
                        | exact ⟨_, res1 rfl rfl, congrArg (Value.int .i64) (checkF_bad (by omega) fun hg => by obtain ⟨p5, p6, p7, p8⟩ := hg.2.2.2 i (by omega); exact of_ndec c4p ⟨p6, p8⟩).symm, H11.pm (by repeat constructor)⟩
                    · have c4p := of_n_f c4
                      refine wc_skip ?_
                      refine wc_region ?_
                      refine wl_v rfl rfl rfl (v_addi rfl rfl (by omega)) ?_
                      refine wl_v rfl rfl rfl (v_move rfl) ?_
                      refine wl_nil ?_
                      exact ⟨2, (sc rfl (sc rfl (sc rfl (sc rfl (sc rfl (sc rfl (sc rfl (sc rfl (sn _))))))))), ⟨by omega, fun _ => h1 (by omega), fun _ => of_dec c4p, H11⟩, by omega⟩
                · have c3p := of_decide_eq_false c3
                  refine wc_exit ?_
                  refine wc_region ?_
                  refine wl_v rfl rfl rfl (v_addi rfl rfl (by omega)) ?_
                  refine wl_v rfl rfl rfl (v_move rfl) ?_
                  refine wl_nil ?_
                  exact ⟨i + 1, (sc rfl (sc rfl (sc rfl (sc rfl (sn _))))), ⟨by omega, upto_succ ha ⟨(h1 (by omega)).1, (h2 (by omega)).1, (h1 (by omega)).2, (h2 (by omega)).2⟩, H⟩, by omega⟩
              · have c2p := of_decide_eq_false c2
                refine wc_exit ?_
                refine wc_seq ?_
                refine wc_region ?_
                refine wl_v rfl rfl rfl (v_assign rfl) ?_
                refine wl_nil ?_
                refine wc_ret ?_
                first
                  | exact ⟨_, res1 rfl rfl, congrArg (Value.int .i64) (checkF_arg (by omega)).symm, H.pm (by repeat constructor)⟩
                  | exact ⟨_, res1 rfl rfl, congrArg (Value.int .i64) (checkF_ok (by omega) ⟨by omega, by omega, by omega, fun s hs => ha s (by omega)⟩).symm, H.pm (by repeat constructor)⟩
                  | exact ⟨_, res1 rfl rfl, congrArg (Value.int .i64) (checkF_bad (by omega) fun hg => by obtain ⟨p1, p2, p3, p4⟩ := hg; omega).symm, H.pm (by repeat constructor)⟩
                  | exact ⟨_, res1 rfl rfl, congrArg (Value.int .i64) (checkF_bad (by omega) fun hg => by obtain ⟨p5, p6, p7, p8⟩ := hg.2.2.2 i (by omega); exact of_ndec c4p ⟨p5, p7⟩).symm, H.pm (by repeat constructor)⟩
                  | exact ⟨_, res1 rfl rfl, congrArg (Value.int .i64) (checkF_bad (by omega) fun hg => by obtain ⟨p5, p6, p7, p8⟩ := hg.2.2.2 i (by omega); exact of_ndec c4p ⟨p6, p8⟩).symm, H.pm (by repeat constructor)⟩
          · have g33p := of_decide_eq_true g33
            refine wl_off rfl rfl g33 rfl ?_
            refine wl_off rfl rfl g33 rfl ?_
            refine wl_off rfl rfl g33 rfl ?_
            refine wl_off rfl rfl g33 rfl ?_
            refine wl_off rfl rfl g33 rfl ?_
            refine wl_off rfl rfl g33 rfl ?_
            refine wl_v rfl rfl rfl (v_pick_t rfl g33 rfl) ?_
            refine wl_nil ?_
            refine wc_cond_t rfl ?_
            refine wc_seq ?_
            refine wc_region ?_
            refine wl_v rfl rfl rfl (v_assign rfl) ?_
            refine wl_nil ?_
            refine wc_ret ?_
            first
              | exact ⟨_, res1 rfl rfl, congrArg (Value.int .i64) (checkF_arg (by omega)).symm, H2.pm (by repeat constructor)⟩
              | exact ⟨_, res1 rfl rfl, congrArg (Value.int .i64) (checkF_ok (by omega) ⟨by omega, by omega, by omega, fun s hs => ha s (by omega)⟩).symm, H2.pm (by repeat constructor)⟩
              | exact ⟨_, res1 rfl rfl, congrArg (Value.int .i64) (checkF_bad (by omega) fun hg => by obtain ⟨p1, p2, p3, p4⟩ := hg; omega).symm, H2.pm (by repeat constructor)⟩
              | exact ⟨_, res1 rfl rfl, congrArg (Value.int .i64) (checkF_bad (by omega) fun hg => by obtain ⟨p5, p6, p7, p8⟩ := hg.2.2.2 i (by omega); exact of_ndec c4p ⟨p5, p7⟩).symm, H2.pm (by repeat constructor)⟩
              | exact ⟨_, res1 rfl rfl, congrArg (Value.int .i64) (checkF_bad (by omega) fun hg => by obtain ⟨p5, p6, p7, p8⟩ := hg.2.2.2 i (by omega); exact of_ndec c4p ⟨p6, p8⟩).symm, H2.pm (by repeat constructor)⟩
        · have g27p := of_decide_eq_true g27
          refine wl_off rfl rfl g27 rfl ?_
          refine wl_off rfl rfl g27 rfl ?_
          refine wl_off rfl rfl g27 rfl ?_
          refine wl_v rfl rfl rfl (v_pick_t rfl g27 rfl) ?_
          refine wl_v rfl rfl rfl (v_move rfl) ?_
          refine wl_off rfl rfl rfl rfl ?_
          refine wl_off rfl rfl rfl rfl ?_
          refine wl_off rfl rfl rfl rfl ?_
          refine wl_off rfl rfl rfl rfl ?_
          refine wl_off rfl rfl rfl rfl ?_
          refine wl_off rfl rfl rfl rfl ?_
          refine wl_off rfl rfl rfl rfl ?_
          refine wl_v rfl rfl rfl (v_pick_t rfl rfl rfl) ?_
          refine wl_nil ?_
          refine wc_cond_t rfl ?_
          refine wc_seq ?_
          refine wc_region ?_
          refine wl_v rfl rfl rfl (v_assign rfl) ?_
          refine wl_nil ?_
          refine wc_ret ?_
          first
            | exact ⟨_, res1 rfl rfl, congrArg (Value.int .i64) (checkF_arg (by omega)).symm, H2.pm (by repeat constructor)⟩
            | exact ⟨_, res1 rfl rfl, congrArg (Value.int .i64) (checkF_ok (by omega) ⟨by omega, by omega, by omega, fun s hs => ha s (by omega)⟩).symm, H2.pm (by repeat constructor)⟩
            | exact ⟨_, res1 rfl rfl, congrArg (Value.int .i64) (checkF_bad (by omega) fun hg => by obtain ⟨p1, p2, p3, p4⟩ := hg; omega).symm, H2.pm (by repeat constructor)⟩
            | exact ⟨_, res1 rfl rfl, congrArg (Value.int .i64) (checkF_bad (by omega) fun hg => by obtain ⟨p5, p6, p7, p8⟩ := hg.2.2.2 i (by omega); exact of_ndec c4p ⟨p5, p7⟩).symm, H2.pm (by repeat constructor)⟩
            | exact ⟨_, res1 rfl rfl, congrArg (Value.int .i64) (checkF_bad (by omega) fun hg => by obtain ⟨p5, p6, p7, p8⟩ := hg.2.2.2 i (by omega); exact of_ndec c4p ⟨p6, p8⟩).symm, H2.pm (by repeat constructor)⟩
    · have g19p := of_decide_eq_true g19
      refine wl_off rfl rfl g19 rfl ?_
      refine wl_v rfl rfl rfl (v_pick_t rfl g19 rfl) ?_
      refine wl_nil ?_
      refine wc_cond_t rfl ?_
      refine wc_seq ?_
      refine wc_region ?_
      refine wl_v rfl rfl rfl (v_assign rfl) ?_
      refine wl_nil ?_
      refine wc_ret ?_
      first
        | exact ⟨_, res1 rfl rfl, congrArg (Value.int .i64) (checkF_arg (by omega)).symm, H2.pm (by repeat constructor)⟩
        | exact ⟨_, res1 rfl rfl, congrArg (Value.int .i64) (checkF_ok (by omega) ⟨by omega, by omega, by omega, fun s hs => ha s (by omega)⟩).symm, H2.pm (by repeat constructor)⟩
        | exact ⟨_, res1 rfl rfl, congrArg (Value.int .i64) (checkF_bad (by omega) fun hg => by obtain ⟨p1, p2, p3, p4⟩ := hg; omega).symm, H2.pm (by repeat constructor)⟩
        | exact ⟨_, res1 rfl rfl, congrArg (Value.int .i64) (checkF_bad (by omega) fun hg => by obtain ⟨p5, p6, p7, p8⟩ := hg.2.2.2 i (by omega); exact of_ndec c4p ⟨p5, p7⟩).symm, H2.pm (by repeat constructor)⟩
        | exact ⟨_, res1 rfl rfl, congrArg (Value.int .i64) (checkF_bad (by omega) fun hg => by obtain ⟨p5, p6, p7, p8⟩ := hg.2.2.2 i (by omega); exact of_ndec c4p ⟨p6, p8⟩).symm, H2.pm (by repeat constructor)⟩
  · have g15p := of_decide_eq_true g15
    refine wl_off rfl rfl g15 rfl ?_
    refine wl_v rfl rfl rfl (v_pick_t rfl g15 rfl) ?_
    refine wl_v rfl rfl rfl (v_move rfl) ?_
    refine wl_off rfl rfl rfl rfl ?_
    refine wl_off rfl rfl rfl rfl ?_
    refine wl_v rfl rfl rfl (v_pick_t rfl rfl rfl) ?_
    refine wl_nil ?_
    refine wc_cond_t rfl ?_
    refine wc_seq ?_
    refine wc_region ?_
    refine wl_v rfl rfl rfl (v_assign rfl) ?_
    refine wl_nil ?_
    refine wc_ret ?_
    first
      | exact ⟨_, res1 rfl rfl, congrArg (Value.int .i64) (checkF_arg (by omega)).symm, H2.pm (by repeat constructor)⟩
      | exact ⟨_, res1 rfl rfl, congrArg (Value.int .i64) (checkF_ok (by omega) ⟨by omega, by omega, by omega, fun s hs => ha s (by omega)⟩).symm, H2.pm (by repeat constructor)⟩
      | exact ⟨_, res1 rfl rfl, congrArg (Value.int .i64) (checkF_bad (by omega) fun hg => by obtain ⟨p1, p2, p3, p4⟩ := hg; omega).symm, H2.pm (by repeat constructor)⟩
      | exact ⟨_, res1 rfl rfl, congrArg (Value.int .i64) (checkF_bad (by omega) fun hg => by obtain ⟨p5, p6, p7, p8⟩ := hg.2.2.2 i (by omega); exact of_ndec c4p ⟨p5, p7⟩).symm, H2.pm (by repeat constructor)⟩
      | exact ⟨_, res1 rfl rfl, congrArg (Value.int .i64) (checkF_bad (by omega) fun hg => by obtain ⟨p5, p6, p7, p8⟩ := hg.2.2.2 i (by omega); exact of_ndec c4p ⟨p6, p8⟩).symm, H2.pm (by repeat constructor)⟩
end Go.Proofs.Ytkpehkadammppaa.Chk

/-! What table.usual tells: a row's default. -/
namespace Go.Proofs.Ytkpehkadammppaa.UsualW
open Go Go.RowKit Go.Proofs.YtkpehkadammppaaFx 
theorem agg48 : Agg Try.prog 48 2 := agg_of Try.underlying48 (by kernel_rfl)
theorem ba48 : BuildAt Try.prog 48 [.int .i64 0, .int .i64 0] [(0, 1), (1, 1)] := build_at Try.underlying48 (by kernel_rfl) (by kernel_rfl)
theorem fa48_0 : FieldAt Try.prog 48 0 0 := field_at (sz := 0) Try.underlying48 rfl (by kernel_rfl) rfl
theorem fa48_1 : FieldAt Try.prog 48 1 1 := field_at (sz := 0) Try.underlying48 rfl (by kernel_rfl) rfl
theorem one3 : One Try.prog 3 := one_of Try.underlying3 rfl (by kernel_rfl)
theorem sz48 : ∀ W, (sizeOf 48).run Try.prog W = .ok 2 W := size_of (by kernel_rfl)
theorem zv3 : ∀ W, (zeroValue 3).run Try.prog W = .ok (.int .i64 0) W := zero_of (by kernel_rfl)
theorem zv48 : ∀ W, (zeroValue 48).run Try.prog W = .ok (.agg #[.int .i64 0, .int .i64 0]) W := zero_of (by kernel_rfl)

abbrev KI : KeyK Try.prog 3 Int := keyInt (k := .i64) Try.underlying3

set_option maxRecDepth 100000 in
theorem usual_calls {A : Option Addr} {c : Nat} {row : List Mv} {w : World} (hr : Rd fMv.kn w A row) (hm : row.length ≤ maxLen) (hw : ∀ m ∈ row, I64 m.n) :
    Calls Try.prog 33 #[.slice A row.length c] w fun e w' => ∃ v, e = .returned v ∧ v = .agg #[.int .i64 (usualF row).d, .int .i64 (usualF row).n] ∧ Holds w [] w' := by
  unfold maxLen at hm
  refine calls_of Try.func33 rfl Try.ntmps33 rfl ?_
  have H := Holds.start w
  refine wc_seq ?_
  refine wc_region ?_
  refine wl_alloc (cs := [.int .i64 0, .int .i64 0]) H rfl zv48 rfl ?_
  intro b2 w1 hb2 H2
  refine wl_nil ?_
  refine wc_seq ?_
  refine wc_region ?_
  refine wl_mkmap KI (Value.int .i64) H2 rfl ?_
  intro bm w3 hbm H3
  refine wl_v rfl rfl rfl (v_assign rfl) ?_
  refine wl_nil ?_
  refine wc_seq ?_
  refine wc_seq ?_
  refine wc_region ?_
  refine wl_v rfl rfl rfl (v_move rfl) ?_
  refine wl_v rfl rfl rfl (v_len Try.underlying38 rfl) ?_
  refine wl_v rfl rfl rfl (v_move rfl) ?_
  refine wl_nil ?_
  refine wc_block ?_
  refine wc_loop (σ := Nat) (fun s => [(2, .pointer (some ⟨b2, 0, none⟩)), (3, .map (some bm)), (10, .slice A row.length c), (11, .int .i64 row.length), (12, .int .i64 s)]) (fun s W => s ≤ row.length ∧ Holds w [Mp KI (Value.int .i64) bm s (fC (row.take s)), Blk b2 48 [.int .i64 0, .int .i64 0]] W) (fun s => row.length - s) 0 (sc rfl (sc rfl (sc rfl (sc rfl (sc rfl (sn _)))))) ⟨Nat.zero_le _, by rw [fC_nil] at H3; exact H3⟩ ?_
  rintro i W0 ⟨hi, H⟩
  refine wc_seq ?_
  refine wc_region ?_
  refine wl_v rfl rfl rfl (v_lss rfl rfl) ?_
  refine wl_nil ?_
  refine wc_seq ?_
  refine wc_cond rfl (fun c0 => ?_) (fun c0 => ?_)
  · have c0p := of_decide_eq_true c0
    have hin : i < row.length := by omega
    have hwn := hw (row.getD i mv0) (getD_mem hin)
    have hcl := Nat.le_trans (cnt_le (row.take i) (row.getD i mv0).n) (List.length_take_le _ _)
    refine wc_skip ?_
    refine wc_seq ?_
    refine wc_block ?_
    refine wc_seq ?_
    refine wc_region ?_
    refine wl_v rfl rfl rfl (v_idx Try.underlying38 sz48 hr.ad rfl rfl (by omega) (by omega)) ?_
    refine wl_v rfl rfl rfl (v_loadN (cs := fMv.enc _) agg48 rfl rfl (fun k u hu => H.cell (hr.at (k := k) mv0 (by omega) (by omega) hu))) ?_
    refine wl_alloc (cs := [.int .i64 0, .int .i64 0]) H rfl zv48 rfl ?_
    intro b5 w4 hb5 H5
    refine wl_store (vs := [_, _]) H5 (by repeat constructor) sz48 rfl rfl rfl rfl rfl (by repeat constructor) ?_
    intro w6 H7 hw6
    refine wl_nil ?_
    refine wc_seq ?_
    refine wc_region ?_
    refine wl_v rfl rfl rfl (v_fb (o2 := 0) fa48_0 rfl rfl) ?_
    refine wl_v rfl rfl rfl (v_load one3 rfl (H7.at (by repeat constructor) rfl)) ?_
    refine wl_v rfl rfl rfl (v_eql rfl rfl) ?_
    refine wl_nil ?_
    refine wc_cond rfl (fun c1 => ?_) (fun c1 => ?_)
    · have c1p := of_decide_eq_true c1
      refine wc_region ?_
      refine wl_v rfl rfl rfl (v_move rfl) ?_
      refine wl_v rfl rfl rfl (v_fb (o2 := 1) fa48_1 rfl rfl) ?_
      refine wl_v rfl rfl rfl (v_load one3 rfl (H7.at (by repeat constructor) rfl)) ?_
      refine wl_v rfl rfl rfl (v_look' H7 (by repeat constructor) Try.underlying116 zv3 (wf64 hwn) rfl rfl (fC_get _ _)) ?_
      refine wl_v rfl rfl rfl (v_addi rfl rfl (by omega)) ?_
      refine wl_mapset H7 (by repeat constructor) Try.underlying116 (wf64 hwn) (by unfold maxLen; omega) rfl rfl rfl ?_
      intro w9 H9
      refine wl_nil ?_
      refine wc_region ?_
      refine wl_v rfl rfl rfl (v_addi rfl rfl (by omega)) ?_
      refine wl_v rfl rfl rfl (v_move rfl) ?_
      refine wl_nil ?_
      first
        | exact ⟨i + 1, (sc rfl (sc rfl (sc rfl (sc rfl (sc rfl (sn _)))))), ⟨by omega, H9.tail.imp (by repeat constructor) (fun S h => by rw [fC_step hin c1p] at h; exact h)⟩, by omega⟩
        | exact ⟨i + 1, (sc rfl (sc rfl (sc rfl (sc rfl (sc rfl (sn _)))))), ⟨by omega, H9.tail.imp (B := Mp KI (Value.int .i64) bm (i + 1) (fC (row.take (i + 1)))) (by repeat constructor) (fun S h => by rw [fC_skip hin c1p] at h; exact Mp.mono (Nat.le_succ i) S h)⟩, by omega⟩
    · have c1p := of_decide_eq_false c1
      refine wc_skip ?_
      refine wc_region ?_
      refine wl_v rfl rfl rfl (v_addi rfl rfl (by omega)) ?_
      refine wl_v rfl rfl rfl (v_move rfl) ?_
      refine wl_nil ?_
      first
        | exact ⟨i + 1, (sc rfl (sc rfl (sc rfl (sc rfl (sc rfl (sn _)))))), ⟨by omega, H7.tail.imp (by repeat constructor) (fun S h => by rw [fC_step hin c1p] at h; exact h)⟩, by omega⟩
        | exact ⟨i + 1, (sc rfl (sc rfl (sc rfl (sc rfl (sc rfl (sn _)))))), ⟨by omega, H7.tail.imp (B := Mp KI (Value.int .i64) bm (i + 1) (fC (row.take (i + 1)))) (by repeat constructor) (fun S h => by rw [fC_skip hin c1p] at h; exact Mp.mono (Nat.le_succ i) S h)⟩, by omega⟩
  · have c0p := of_decide_eq_false c0
    rw [take_all c0p] at H
    refine wc_exit ?_
    refine wc_seq ?_
    refine wc_region ?_
    refine wl_v rfl rfl rfl (v_bld ba48 rfl (by repeat constructor)) ?_
    refine wl_alloc (cs := [.int .i64 0, .int .i64 0]) H rfl zv48 rfl ?_
    intro b6 w10 hb6 H11
    refine wl_store (vs := [_, _]) H11 (by repeat constructor) sz48 rfl rfl rfl rfl rfl (by repeat constructor) ?_
    intro w12 H13 hw12
    refine wl_nil ?_
    refine wc_seq ?_
    refine wc_seq ?_
    refine wc_region ?_
    refine wl_v rfl rfl rfl (v_move rfl) ?_
    refine wl_range H13 (fun r cnt => (by repeat constructor)) Try.underlying116 rfl rfl ?_
    intro r cn w14 hr14 H14
    refine wl_nil ?_
    refine wc_block ?_
    refine wc_loop (σ := (Int → Bool) × Nat × Mv × Option (Int × Int)) (fun s => [(2, .pointer (some ⟨b2, 0, none⟩)), (3, .map (some bm)), (6, .pointer (some ⟨b6, 0, none⟩)), (27, .pointer (some ⟨r, 0, none⟩))]) (fun s W => Best row (fun x => 0 < cnt row x ∧ s.1 x = false) s.2.2.1 ∧ Holds w [Blk b6 48 [.int .i64 s.2.2.1.d, .int .i64 s.2.2.1.n], It KI (Value.int .i64) bm r row.length (fC row) s.1 s.2.1 s.2.2.2, Blk b2 48 [.int .i64 0, .int .i64 0]] W) (fun s => s.2.1) (fun x => (fC row x).isSome, cn, mv0, none) (sc rfl (sc rfl (sc rfl (sc rfl (sn _))))) ⟨.inl ⟨rfl, fun x hx => absurd (((fC_isSome row x).2 hx.1).symm.trans hx.2) (by simp)⟩, H14.imp (B := It KI (Value.int .i64) bm r row.length (fC row) _ cn none) (by repeat constructor) (fun S h => It.mono hi S h)⟩ ?_
    rintro ⟨left, cn, best, cur⟩ W1 ⟨hb, H⟩
    dsimp only at hb H
    have hwb := Best.i64 hw (fun x hx => hx.1) hb
    refine wc_seq ?_
    refine wc_region ?_
    refine wl_next H (fun _ _ _ => (by repeat constructor)) rfl rfl (fun hdone => ?_) (fun kx vx left2 cn2 wn hk1 hk2 hk3 hk4 hk5 Hn => ?_)
    · refine wl_v rfl rfl rfl (v_extract rfl rfl) ?_
      refine wl_nil ?_
      refine wc_seq ?_
      refine wc_cond_f rfl ?_
      refine wc_exit ?_
      refine wc_seq ?_
      refine wc_region ?_
      refine wl_v rfl rfl rfl (v_loadN agg48 rfl rfl (H.ats (by repeat constructor))) ?_
      refine wl_store (vs := [_, _]) H (by repeat constructor) sz48 rfl rfl rfl rfl rfl (by repeat constructor) ?_
      intro w15 H16 hw15
      refine wl_nil ?_
      refine wc_ret ?_
      exact ⟨_, resc rfl rfl (run_loadVarN agg48 rfl (H16.ats (by repeat constructor))), by rw [show best = usualF row from (hb.usual fun x => ⟨fun h => h.1, fun h => ⟨h, hdone x (wf64 (cnt_i64 hw h))⟩⟩).unique (usualF_is row)], ((H16.drop (by repeat constructor)).drop (by repeat constructor)).tail⟩
    · refine wl_v rfl rfl rfl (v_extract rfl rfl) ?_
      refine wl_nil ?_
      refine wc_seq ?_
      refine wc_cond_t rfl ?_
      refine wc_skip ?_
      refine wc_block ?_
      refine wc_seq ?_
      refine wc_region ?_
      refine wl_v rfl rfl rfl (v_entry Hn (by repeat constructor) rfl) ?_
      refine wl_v rfl rfl rfl (v_extract rfl rfl) ?_
      refine wl_v rfl rfl rfl (v_extract rfl rfl) ?_
      refine wl_v rfl rfl rfl (v_assign rfl) ?_
      refine wl_v rfl rfl rfl (v_assign rfl) ?_
      refine wl_nil ?_
      refine wc_seq ?_
      refine wc_region ?_
      refine wl_v rfl rfl rfl (v_fb (o2 := 0) fa48_0 rfl rfl) ?_
      refine wl_v rfl rfl rfl (v_load one3 rfl (Hn.at (by repeat constructor) rfl)) ?_
      refine wl_v rfl rfl rfl (v_eql rfl rfl) ?_
      refine wl_v rfl rfl rfl (v_move rfl) ?_
      refine wl_guard rfl rfl rfl (fun g36 => ?_) (fun g36 => ?_)
      · have g36p := of_decide_eq_false g36
        refine wl_v rfl rfl rfl (v_move rfl) ?_
        refine wl_on' rfl rfl g36 ?_
        refine wl_v rfl rfl rfl (v_move rfl) ?_
        refine wl_on' rfl rfl g36 ?_
        refine wl_v rfl rfl rfl (v_fb (o2 := 1) fa48_1 rfl rfl) ?_
        refine wl_on' rfl rfl g36 ?_
        refine wl_v rfl rfl rfl (v_load one3 rfl (Hn.at (by repeat constructor) rfl)) ?_
        refine wl_on' rfl rfl g36 ?_
        refine wl_v rfl rfl rfl (v_lookI Hn (by repeat constructor) Try.underlying116 zv3 (wf64 hwb) rfl rfl (fC_get _ _)) ?_
        refine wl_on' rfl rfl g36 ?_
        refine wl_v rfl rfl rfl (v_gtr rfl rfl) ?_
        refine wl_v rfl rfl rfl (v_pick_f rfl g36 rfl) ?_
        refine wl_v rfl rfl rfl (v_move rfl) ?_
        refine wl_guard rfl rfl rfl (fun g44 => ?_) (fun g44 => ?_)
        · have g44p := of_decide_eq_false g44
          refine wl_v rfl rfl rfl (v_move rfl) ?_
          refine wl_on' rfl rfl g44 ?_
          refine wl_v rfl rfl rfl (v_move rfl) ?_
          refine wl_on' rfl rfl g44 ?_
          refine wl_v rfl rfl rfl (v_fb (o2 := 1) fa48_1 rfl rfl) ?_
          refine wl_on' rfl rfl g44 ?_
          refine wl_v rfl rfl rfl (v_load one3 rfl (Hn.at (by repeat constructor) rfl)) ?_
          refine wl_on' rfl rfl g44 ?_
          refine wl_v rfl rfl rfl (v_lookI Hn (by repeat constructor) Try.underlying116 zv3 (wf64 hwb) rfl rfl (fC_get _ _)) ?_
          refine wl_on' rfl rfl g44 ?_
          refine wl_v rfl rfl rfl (v_eql rfl rfl) ?_
          refine wl_on' rfl rfl g44 ?_
          refine wl_v rfl rfl rfl (v_move rfl) ?_
          refine wl_guard rfl rfl rfl (fun g51 => ?_) (fun g51 => ?_)
          · have g51p := of_decide_eq_true g51
            refine wl_v rfl rfl rfl (v_move rfl) ?_
            refine wl_on' rfl rfl g51 ?_
            refine wl_v rfl rfl rfl (v_fb (o2 := 1) fa48_1 rfl rfl) ?_
            refine wl_on' rfl rfl g51 ?_
            refine wl_v rfl rfl rfl (v_load one3 rfl (Hn.at (by repeat constructor) rfl)) ?_
            refine wl_on' rfl rfl g51 ?_
            refine wl_v rfl rfl rfl (v_lss rfl rfl) ?_
            refine wl_on' rfl rfl g44 ?_
            refine wl_v rfl rfl rfl (v_pick_t rfl g51 rfl) ?_
            refine wl_v rfl rfl rfl (v_pick_f rfl g44 rfl) ?_
            refine wl_nil ?_
            refine wc_cond rfl (fun c3 => ?_) (fun c3 => ?_)
            · have c3p := of_decide_eq_true c3
              refine wc_region ?_
              refine wl_v rfl rfl rfl (v_move rfl) ?_
              refine wl_v rfl rfl rfl (v_bld ba48 rfl (by repeat constructor)) ?_
              refine wl_store (vs := [_, _]) Hn (by repeat constructor) sz48 rfl rfl rfl rfl rfl (by repeat constructor) ?_
              intro w20 H21 hw20
              refine wl_nil ?_
              obtain ⟨hc0, rfl⟩ := fC_some hk3
              have hq := left_step hw hc0 hk4
              first
                | exact ⟨(left2, cn2, ⟨2, kx⟩, some (kx, _)), (sc rfl (sc rfl (sc rfl (sc rfl (sn _))))), ⟨by have h := hb.step hq; rwa [if_pos (by unfold better; simp only [Bool.or_eq_true, Bool.and_eq_true, decide_eq_true_eq]; omega)] at h, H21⟩, hk5⟩
                | exact ⟨(left2, cn2, best, some (kx, _)), (sc rfl (sc rfl (sc rfl (sc rfl (sn _))))), ⟨by have h := hb.step hq; rwa [if_neg (by unfold better; simp only [Bool.or_eq_true, Bool.and_eq_true, decide_eq_true_eq]; omega)] at h, H21⟩, hk5⟩
            · have c3p := of_decide_eq_false c3
              refine wc_skip ?_
              obtain ⟨hc0, rfl⟩ := fC_some hk3
              have hq := left_step hw hc0 hk4
              first
                | exact ⟨(left2, cn2, ⟨2, kx⟩, some (kx, _)), (sc rfl (sc rfl (sc rfl (sc rfl (sn _))))), ⟨by have h := hb.step hq; rwa [if_pos (by unfold better; simp only [Bool.or_eq_true, Bool.and_eq_true, decide_eq_true_eq]; omega)] at h, Hn⟩, hk5⟩
                | exact ⟨(left2, cn2, best, some (kx, _)), (sc rfl (sc rfl (sc rfl (sc rfl (sn _))))), ⟨by have h := hb.step hq; rwa [if_neg (by unfold better; simp only [Bool.or_eq_true, Bool.and_eq_true, decide_eq_true_eq]; omega)] at h, Hn⟩, hk5⟩
          · have g51p := of_decide_eq_false g51
            refine wl_off rfl rfl g51 rfl ?_
            refine wl_off rfl rfl g51 rfl ?_
            refine wl_off rfl rfl g51 rfl ?_
            refine wl_on' rfl rfl g44 ?_
            refine wl_v rfl rfl rfl (v_pick_f rfl g51 rfl) ?_
            refine wl_v rfl rfl rfl (v_pick_f rfl g44 rfl) ?_
            refine wl_nil ?_
            refine wc_cond_f rfl ?_
            refine wc_skip ?_
            obtain ⟨hc0, rfl⟩ := fC_some hk3
            have hq := left_step hw hc0 hk4
            first
              | exact ⟨(left2, cn2, ⟨2, kx⟩, some (kx, _)), (sc rfl (sc rfl (sc rfl (sc rfl (sn _))))), ⟨by have h := hb.step hq; rwa [if_pos (by unfold better; simp only [Bool.or_eq_true, Bool.and_eq_true, decide_eq_true_eq]; omega)] at h, Hn⟩, hk5⟩
              | exact ⟨(left2, cn2, best, some (kx, _)), (sc rfl (sc rfl (sc rfl (sc rfl (sn _))))), ⟨by have h := hb.step hq; rwa [if_neg (by unfold better; simp only [Bool.or_eq_true, Bool.and_eq_true, decide_eq_true_eq]; omega)] at h, Hn⟩, hk5⟩
        · have g44p := of_decide_eq_true g44
          refine wl_off rfl rfl g44 rfl ?_
          refine wl_off rfl rfl g44 rfl ?_
          refine wl_off rfl rfl g44 rfl ?_
          refine wl_off rfl rfl g44 rfl ?_
          refine wl_off rfl rfl g44 rfl ?_
          refine wl_off rfl rfl g44 rfl ?_
          refine wl_offu rfl rfl rfl ?_
          refine wl_offu rfl rfl rfl ?_
          refine wl_offu rfl rfl rfl ?_
          refine wl_offu rfl rfl rfl ?_
          refine wl_off rfl rfl g44 rfl ?_
          refine wl_v rfl rfl rfl (v_pick_t rfl g44 rfl) ?_
          refine wl_nil ?_
          refine wc_cond_t rfl ?_
          refine wc_region ?_
          refine wl_v rfl rfl rfl (v_move rfl) ?_
          refine wl_v rfl rfl rfl (v_bld ba48 rfl (by repeat constructor)) ?_
          refine wl_store (vs := [_, _]) Hn (by repeat constructor) sz48 rfl rfl rfl rfl rfl (by repeat constructor) ?_
          intro w22 H23 hw22
          refine wl_nil ?_
          obtain ⟨hc0, rfl⟩ := fC_some hk3
          have hq := left_step hw hc0 hk4
          first
            | exact ⟨(left2, cn2, ⟨2, kx⟩, some (kx, _)), (sc rfl (sc rfl (sc rfl (sc rfl (sn _))))), ⟨by have h := hb.step hq; rwa [if_pos (by unfold better; simp only [Bool.or_eq_true, Bool.and_eq_true, decide_eq_true_eq]; omega)] at h, H23⟩, hk5⟩
            | exact ⟨(left2, cn2, best, some (kx, _)), (sc rfl (sc rfl (sc rfl (sc rfl (sn _))))), ⟨by have h := hb.step hq; rwa [if_neg (by unfold better; simp only [Bool.or_eq_true, Bool.and_eq_true, decide_eq_true_eq]; omega)] at h, H23⟩, hk5⟩
      · have g36p := of_decide_eq_true g36
        refine wl_off rfl rfl g36 rfl ?_
        refine wl_off rfl rfl g36 rfl ?_
        refine wl_off rfl rfl g36 rfl ?_
        refine wl_off rfl rfl g36 rfl ?_
        refine wl_off rfl rfl g36 rfl ?_
        refine wl_v rfl rfl rfl (v_pick_t rfl g36 rfl) ?_
        refine wl_v rfl rfl rfl (v_move rfl) ?_
        refine wl_off rfl rfl rfl rfl ?_
        refine wl_off rfl rfl rfl rfl ?_
        refine wl_off rfl rfl rfl rfl ?_
        refine wl_off rfl rfl rfl rfl ?_
        refine wl_off rfl rfl rfl rfl ?_
        refine wl_off rfl rfl rfl rfl ?_
        refine wl_off rfl rfl rfl rfl ?_
        refine wl_offu rfl rfl rfl ?_
        refine wl_offu rfl rfl rfl ?_
        refine wl_offu rfl rfl rfl ?_
        refine wl_offu rfl rfl rfl ?_
        refine wl_off rfl rfl rfl rfl ?_
        refine wl_v rfl rfl rfl (v_pick_t rfl rfl rfl) ?_
        refine wl_nil ?_
        refine wc_cond_t rfl ?_
        refine wc_region ?_
        refine wl_v rfl rfl rfl (v_move rfl) ?_
        refine wl_v rfl rfl rfl (v_bld ba48 rfl (by repeat constructor)) ?_
        refine wl_store (vs := [_, _]) Hn (by repeat constructor) sz48 rfl rfl rfl rfl rfl (by repeat constructor) ?_
        intro w24 H25 hw24
        refine wl_nil ?_
        obtain ⟨hc0, rfl⟩ := fC_some hk3
        have hq := left_step hw hc0 hk4
        first
          | exact ⟨(left2, cn2, ⟨2, kx⟩, some (kx, _)), (sc rfl (sc rfl (sc rfl (sc rfl (sn _))))), ⟨by have h := hb.step hq; rwa [if_pos (by unfold better; simp only [Bool.or_eq_true, Bool.and_eq_true, decide_eq_true_eq]; omega)] at h, H25⟩, hk5⟩
          | exact ⟨(left2, cn2, best, some (kx, _)), (sc rfl (sc rfl (sc rfl (sc rfl (sn _))))), ⟨by have h := hb.step hq; rwa [if_neg (by unfold better; simp only [Bool.or_eq_true, Bool.and_eq_true, decide_eq_true_eq]; omega)] at h, H25⟩, hk5⟩
end Go.Proofs.Ytkpehkadammppaa.UsualW
