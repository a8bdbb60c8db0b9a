/- Numbers, seven bits a byte: plain; bit operations and divisions. A table's bytes: plain. What came in, its rows' lengths together. Grammars that came in, as they read. Derivations, nodes and data that came in, as they read. The value of a tree is the document's. Inner rows of rows of the call's own: one at a time; appends whose result is dropped. Rows of trees of the call's own: opened; stores of leaves; appends whose result is dropped. Data, as the document finds them. -/
import Derived.Test.YtgdemplcpcacaaaK02
import Derived.Test.YtgdemplcpcacaaaK15
import Derived.Laws.BitsLemmas
import Derived.Test.YtgdemplcpcacaaaK03
import Derived.Test.YtgdemplcpcacaaaProg
import Derived.Test.YtgdemplcpcacaaaK13
import Derived.Test.YtgdemplcpcacaaaK11
set_option linter.unusedVariables false
set_option linter.unusedSimpArgs false
/-! Numbers, seven bits a byte: plain; bit operations and divisions. -/
namespace Go.Proofs.YtgdemplcpcacaaaFx
open Go Go.RowKit
section
variable {P : Program} {n : Nat} {l : Fr} {w : World} {x y : Operand} {ty t t2 : TypeId} {pos : String} {af : Array Edge} {gd : Option (Nat × Bool)} {dst : Option Tmp} {i j : Int} {k : IntKind}
theorem v_and (hx : ev l x = some (.int k i)) (hy : ev l y = some (.int k j)) : Vs P n l ⟨dst, .binOp .and t x y t2, ty, pos, af, gd⟩ w (.int k (bits .and k i j)) := fun a ha => by simp [execOp, ha.eval hx, ha.eval hy, eqGuard_at_int, binOp_and, intBits_and]
theorem v_or (hx : ev l x = some (.int k i)) (hy : ev l y = some (.int k j)) : Vs P n l ⟨dst, .binOp .or t x y t2, ty, pos, af, gd⟩ w (.int k (bits .or k i j)) := fun a ha => by simp [execOp, ha.eval hx, ha.eval hy, eqGuard_at_int, binOp_or, intBits_or]
theorem v_rem (hx : ev l x = some (.int k i)) (hy : ev l y = some (.int k j)) (h0 : j ≠ 0) : Vs P n l ⟨dst, .binOp .rem t x y t2, ty, pos, af, gd⟩ w (.int k (Int.tmod i j)) := fun a ha => by
  simp [execOp, ha.eval hx, ha.eval hy, eqGuard_at_int, binOp_rem, Op.intDiv, h0]
theorem v_quo (hx : ev l x = some (.int k i)) (hy : ev l y = some (.int k j)) (h0 : j ≠ 0) : Vs P n l ⟨dst, .binOp .quo t x y t2, ty, pos, af, gd⟩ w (.int k (k.wrap (Int.tdiv i j))) := fun a ha => by
  simp [execOp, ha.eval hx, ha.eval hy, eqGuard_at_int, binOp_quo, Op.intDiv, h0]
end
theorem or128 {a : Int} (h : 0 ≤ a ∧ a < 256) : bits .or .u8 a 128 = a % 128 + 128 := by
  obtain ⟨n, rfl⟩ := Int.eq_ofNat_of_zero_le h.1
  have hn : n < 256 := by omega
  have h1 := (bits_nat .u8 8 (by decide) wraps_u8 n 128 (by simpa using hn) (by decide)).2
  have h2 : ∀ n : Fin 256, (n.1 ||| 128) = n.1 % 128 + 128 := by decide +kernel
  have h3 := h2 ⟨n, hn⟩
  dsimp only at h3
  rw [show (128 : Int) = ((128 : Nat) : Int) from rfl, h1, h3]
  omega
theorem and127 {a : Int} (h : 0 ≤ a ∧ a < 256) : bits .and .u8 a 127 = a % 128 := bits_mask .u8 8 (by decide) wraps_u8 7 (by decide) a h.1 (by have := h.2; omega)
theorem wraps_i64 (n : Int) (h₀ : 0 ≤ n) (h₁ : n < 2 ^ 62) : IntKind.i64.wrap n = n := by rw [IntKind.wrap_i64]; omega
theorem or_low {a c s : Nat} (ha : a < 2 ^ s) (hc : c * 2 ^ s < 2 ^ 62) (ha2 : a < 2 ^ 62) : bits .or .i64 (a : Int) ((c * 2 ^ s : Nat) : Int) = ((a + c * 2 ^ s : Nat) : Int) := by
  rw [(bits_nat .i64 62 (by decide) wraps_i64 a (c * 2 ^ s) ha2 hc).2, Nat.or_comm, Nat.mul_comm c, ← Nat.two_pow_add_eq_or_of_lt ha, Nat.add_comm]
/-- A number's bytes. -/
def vint (n : Nat) : List Int := if n < 128 then [(n : Int)] else ((n % 128 + 128 : Nat) : Int) :: vint (n / 128)
termination_by n
theorem vint_lt {n : Nat} (h : n < 128) : vint n = [(n : Int)] := by rw [vint, if_pos h]
theorem vint_ge {n : Nat} (h : ¬ n < 128) : vint n = ((n % 128 + 128 : Nat) : Int) :: vint (n / 128) := by rw [vint, if_neg h]
theorem vint_len : ∀ (k n : Nat), n < 128 ^ k → 1 ≤ k → (vint n).length ≤ k
  | 0, _, _, h => by omega
  | k + 1, n, h, _ => by
    rcases Nat.lt_or_ge n 128 with h1 | h1
    · rw [vint_lt h1]; simp
    · rw [vint_ge (by omega), List.length_cons]
      rcases Nat.eq_zero_or_pos k with rfl | hk
      · simp at h; omega
      · have := vint_len k (n / 128) (by rw [Nat.pow_succ] at h; exact Nat.div_lt_of_lt_mul (by rw [Nat.mul_comm]; exact h)) hk
        omega
theorem vint_pos (n : Nat) : 1 ≤ (vint n).length := by
  rcases Nat.lt_or_ge n 128 with h1 | h1
  · rw [vint_lt h1]; simp
  · rw [vint_ge (by omega), List.length_cons]; omega
theorem vint_bytes : ∀ (n : Nat), ∀ x ∈ vint n, 0 ≤ x ∧ x < 256 := by
  intro n
  induction n using Nat.strongRecOn with
  | _ n ih =>
    intro x hx
    rcases Nat.lt_or_ge n 128 with h1 | h1
    · rw [vint_lt h1, List.mem_singleton] at hx; omega
    · rw [vint_ge (by omega)] at hx
      rcases List.mem_cons.1 hx with rfl | hx
      · omega
      · exact ih (n / 128) (by omega) x hx
/-- A number read: at most k bytes are left, acc is what was read, sh its bits. -/
def numG : Nat → Nat → Nat → List Int → Option (Nat × List Int)
  | 0, _, _, _ => none
  | _ + 1, _, _, [] => none
  | k + 1, acc, sh, c :: r =>
    if c < 128 then if (c = 0 ∧ 0 < sh) ∨ 2147483647 < acc + (c.toNat % 128) * 2 ^ sh then none else some (acc + (c.toNat % 128) * 2 ^ sh, r)
    else numG k (acc + (c.toNat % 128) * 2 ^ sh) (sh + 7) r
def num (bs : List Int) : Option (Nat × List Int) := numG 5 0 0 bs
def Bytes (bs : List Int) : Prop := ∀ x ∈ bs, 0 ≤ x ∧ x < 256
theorem numG_big : ∀ (k acc sh : Nat) (bs : List Int), 2147483647 < acc → numG k acc sh bs = none
  | 0, _, _, _, _ => rfl
  | _ + 1, _, _, [], _ => rfl
  | k + 1, acc, sh, c :: r, h => by
    unfold numG
    split
    · rw [if_pos (.inr (by omega))]
    · exact numG_big k _ _ r (by omega)
theorem numG_vint : ∀ (k acc sh m : Nat) (r : List Int), m < 128 ^ k → 1 ≤ k → acc + m * 2 ^ sh ≤ 2147483647 → (m ≠ 0 ∨ sh = 0) → numG k acc sh (vint m ++ r) = some (acc + m * 2 ^ sh, r)
  | 0, acc, sh, m, r, h, h0, h2, h3 => by omega
  | k + 1, acc, sh, m, r, h, h0, h2, h3 => by
    have hdiv : m / 128 < 128 ^ k := by rw [Nat.pow_succ] at h; exact Nat.div_lt_of_lt_mul (by rw [Nat.mul_comm]; exact h)
    rcases Nat.lt_or_ge m 128 with h1 | h1
    · rw [vint_lt h1]
      show numG (k + 1) acc sh ((m : Int) :: r) = _
      unfold numG
      rw [if_pos (by omega), Int.toNat_natCast, Nat.mod_eq_of_lt h1, if_neg (by omega)]
    · rw [vint_ge (by omega)]
      show numG (k + 1) acc sh (((m % 128 + 128 : Nat) : Int) :: (vint (m / 128) ++ r)) = _
      have e1 : (m % 128 + 128) % 128 = m % 128 := by omega
      have e2 : acc + m % 128 * 2 ^ sh + m / 128 * 2 ^ (sh + 7) = acc + m * 2 ^ sh := by
        have h5 : m / 128 * 2 ^ (sh + 7) = (m / 128 * 128) * 2 ^ sh := by rw [Nat.pow_add, Nat.mul_comm (2 ^ sh), ← Nat.mul_assoc]
        have h6 : m % 128 + m / 128 * 128 = m := Nat.mod_add_div' m 128
        rw [h5, Nat.add_assoc, ← Nat.add_mul, h6]
      unfold numG
      rw [if_neg (by omega), Int.toNat_natCast, e1]
      have := numG_vint k (acc + m % 128 * 2 ^ sh) (sh + 7) (m / 128) r hdiv (by
        rcases Nat.eq_zero_or_pos k with rfl | hk
        · simp at h; omega
        · exact hk) (by rw [e2]; exact h2) (.inl (by omega))
      rw [this, e2]
theorem numG_is : ∀ (k acc sh n : Nat) (bs r : List Int), Bytes bs → numG k acc sh bs = some (n, r) → ∃ m, bs = vint m ++ r ∧ n = acc + m * 2 ^ sh ∧ n ≤ 2147483647 ∧ (m ≠ 0 ∨ sh = 0)
  | 0, _, _, _, _, _, _, h => by simp [numG] at h
  | _ + 1, _, _, _, [], _, _, h => by simp [numG] at h
  | k + 1, acc, sh, n, c :: r0, r, hB, h => by
    have hc := hB c (List.mem_cons_self ..)
    unfold numG at h
    split at h
    · rename_i h1
      split at h
      · cases h
      · rename_i h2
        injection h with h
        injection h with h3 h4
        subst h4
        have e : c.toNat % 128 = c.toNat := by omega
        rw [e] at h2 h3
        refine ⟨c.toNat, ?_, h3.symm, by omega, by omega⟩
        rw [vint_lt (by omega)]
        show c :: r0 = (c.toNat : Int) :: r0
        rw [Int.toNat_of_nonneg hc.1]
    · rename_i h1
      obtain ⟨m, rfl, hn, hle, hm⟩ := numG_is k _ _ n r0 r (fun x hx => hB x (List.mem_cons_of_mem _ hx)) h
      have hm0 : m ≠ 0 := hm.resolve_right (by omega)
      have e0 : c.toNat % 128 = c.toNat - 128 := by omega
      refine ⟨(c.toNat - 128) + 128 * m, ?_, ?_, hle, .inl (by omega)⟩
      · rw [vint_ge (n := (c.toNat - 128) + 128 * m) (by omega)]
        have e1 : ((c.toNat - 128) + 128 * m) % 128 + 128 = c.toNat := by omega
        have e2 : ((c.toNat - 128) + 128 * m) / 128 = m := by omega
        rw [e1, e2, Int.toNat_of_nonneg hc.1]
        rfl
      · rw [hn, e0, Nat.add_assoc]
        congr 1
        rw [Nat.add_mul, Nat.pow_add]
        congr 1
        rw [Nat.mul_comm 128 m, Nat.mul_assoc, Nat.mul_comm 128]
theorem num_vint {n : Nat} (r : List Int) (h : n ≤ 2147483647) : num (vint n ++ r) = some (n, r) := by
  have := numG_vint 5 0 0 n r (by simp only [Nat.reducePow]; omega) (by decide) (by simpa using h) (.inr rfl)
  simpa [num] using this
theorem num_is {n : Nat} {bs r : List Int} (hB : Bytes bs) (h : num bs = some (n, r)) : bs = vint n ++ r ∧ n ≤ 2147483647 := by
  obtain ⟨m, h1, h2, h3, _⟩ := numG_is 5 0 0 n bs r hB h
  rw [Nat.pow_zero, Nat.mul_one, Nat.zero_add] at h2
  subst h2
  exact ⟨h1, h3⟩
end Go.Proofs.YtgdemplcpcacaaaFx

/-! A table's bytes: plain. -/
namespace Go.Proofs.YtgdemplcpcacaaaFx
open Go Go.RowKit
def okMv (m : Mv) : Prop := 0 ≤ m.d ∧ m.d ≤ 2147483647 ∧ 0 ≤ m.n ∧ m.n ≤ 2147483647
def okGo (x : Int) : Prop := -1 ≤ x ∧ x < 2147483647
def mvB (m : Mv) : List Int := vint m.d.toNat ++ vint m.n.toNat
def goB (x : Int) : List Int := vint (x + 1).toNat
def mvsB (ms : List Mv) : List Int := ms.flatMap mvB
def gosB (xs : List Int) : List Int := xs.flatMap goB
def rowB (t : Tb) (s : Nat) : List Int := mvsB (t.mv.getD s []) ++ gosB (t.go.getD s [])
def rowsB (t : Tb) (i : Nat) : List Int := (List.range i).flatMap (rowB t)
def headB (t : Tb) : List Int := vint t.mv.length ++ vint (t.mv.getD 0 []).length ++ vint (t.go.getD 0 []).length
def tbB (t : Tb) : List Int := headB t ++ rowsB t t.mv.length
def RowOk2 (t : Tb) (s : Nat) : Prop := (∀ m ∈ t.mv.getD s [], okMv m) ∧ ∀ x ∈ t.go.getD s [], okGo x
def ByOk (t : Tb) : Prop := Rect t ∧ ∀ s, s < t.mv.length → RowOk2 t s
noncomputable def bytesA (t : Tb) : List Int := if dec (ByOk t) then tbB t else []
noncomputable def bytesE (t : Tb) : Int := if dec (ByOk t) then 0 else 170
theorem by_t {t : Tb} (h : ByOk t) : bytesA t = tbB t ∧ bytesE t = 0 := by rw [bytesA, bytesE, dec_t h]; exact ⟨rfl, rfl⟩
theorem by_f {t : Tb} (h : ¬ ByOk t) : bytesA t = [] ∧ bytesE t = 170 := by rw [bytesA, bytesE, dec_f h]; exact ⟨rfl, rfl⟩
/-- A table of bulk at most the bound. -/
structure BSm (t : Tb) : Prop where
  ok : t.ok
  m : t.mv.length ≤ 1048576
  mr : ∀ r ∈ t.mv, r.length ≤ 1048576
  gr : ∀ r ∈ t.go, r.length ≤ 1048576
theorem BSm.ml {t : Tb} (h : BSm t) {i : Nat} (hi : i < t.mv.length) : (t.mv.getD i []).length ≤ 1048576 := h.mr _ (getD_mem hi)
theorem BSm.gl {t : Tb} (h : BSm t) {i : Nat} (hi : i < t.go.length) : (t.go.getD i []).length ≤ 1048576 := h.gr _ (getD_mem hi)
theorem vint5 {n : Nat} (h : n ≤ 2147483647) : (vint n).length ≤ 5 := vint_len 5 n (by simp only [Nat.reducePow]; omega) (by decide)
theorem mvsB_len {ms : List Mv} (h : ∀ m ∈ ms, okMv m) : (mvsB ms).length ≤ 10 * ms.length := by
  induction ms with
  | nil => simp [mvsB]
  | cons m r ih =>
    have h1 := ih fun x hx => h x (List.mem_cons_of_mem _ hx)
    obtain ⟨h2, h3, h4, h5⟩ := h m (List.mem_cons_self ..)
    have v1 := vint5 (n := m.d.toNat) (by omega)
    have v2 := vint5 (n := m.n.toNat) (by omega)
    show (mvB m ++ mvsB r).length ≤ _
    rw [List.length_append, mvB, List.length_append, List.length_cons]
    omega
theorem gosB_len {xs : List Int} (h : ∀ x ∈ xs, okGo x) : (gosB xs).length ≤ 5 * xs.length := by
  induction xs with
  | nil => simp [gosB]
  | cons m r ih =>
    have h1 := ih fun x hx => h x (List.mem_cons_of_mem _ hx)
    obtain ⟨h2, h3⟩ := h m (List.mem_cons_self ..)
    have v1 := vint5 (n := (m + 1).toNat) (by omega)
    show (goB m ++ gosB r).length ≤ _
    rw [List.length_append, goB, List.length_cons]
    omega
theorem rowsB_succ (t : Tb) (i : Nat) : rowsB t (i + 1) = rowsB t i ++ mvsB (t.mv.getD i []) ++ gosB (t.go.getD i []) := by
  rw [rowsB, List.range_succ, List.flatMap_append, List.append_assoc]
  simp [rowsB, rowB]
theorem rowsB_len {t : Tb} (hs : BSm t) (hg : t.go.length = t.mv.length) : ∀ i, i ≤ t.mv.length → (∀ s, s < i → RowOk2 t s) → (rowsB t i).length ≤ i * 15728640
  | 0, _, _ => by simp [rowsB]
  | i + 1, hi, h => by
    have h1 := rowsB_len hs hg i (by omega) fun s hs => h s (by omega)
    have h2 := mvsB_len (h i (by omega)).1
    have h3 := gosB_len (h i (by omega)).2
    have h4 := hs.ml (i := i) (by omega)
    have h5 := hs.gl (i := i) (by omega)
    rw [rowsB_succ, List.length_append, List.length_append]
    omega
theorem headB_len {t : Tb} (hs : BSm t) (hg : t.go.length = t.mv.length) (h0 : 0 < t.mv.length) : (headB t).length ≤ 15 := by
  have h1 := vint5 (n := t.mv.length) (by have := hs.m; omega)
  have h2 := vint5 (n := (t.mv.getD 0 []).length) (by have := hs.ml (i := 0) h0; omega)
  have h3 := vint5 (n := (t.go.getD 0 []).length) (by have := hs.gl (i := 0) (by omega); omega)
  rw [headB, List.length_append, List.length_append]
  omega
theorem mvsB_succ {ms : List Mv} {j : Nat} (h : j < ms.length) : mvsB (ms.take (j + 1)) = mvsB (ms.take j) ++ vint (ms.getD j mv0).d.toNat ++ vint (ms.getD j mv0).n.toNat := by
  rw [mvsB, take_succ' mv0 h, List.flatMap_append, List.append_assoc]
  simp [mvsB, mvB]
theorem gosB_succ {xs : List Int} {j : Nat} (h : j < xs.length) : gosB (xs.take (j + 1)) = gosB (xs.take j) ++ vint (xs.getD j 0 + 1).toNat := by
  rw [gosB, take_succ' 0 h, List.flatMap_append]
  simp [gosB, goB]
theorem take_ok {α : Type} {p : α → Prop} {xs : List α} {j : Nat} (z : α) (hj : j < xs.length) (h : ∀ x ∈ xs.take j, p x) (hx : p (xs.getD j z)) : ∀ x ∈ xs.take (j + 1), p x := fun x hxm => by
  rw [take_succ' z hj, List.mem_append, List.mem_singleton] at hxm
  rcases hxm with h1 | rfl
  · exact h x h1
  · exact hx
theorem out0 {t : Tb} (hs : BSm t) (hg : t.go.length = t.mv.length) (h0 : 0 < t.mv.length) {i : Nat} (hi : i ≤ t.mv.length) (h : ∀ s, s < i → RowOk2 t s) : (headB t ++ rowsB t i).length ≤ 20000000000000 := by
  have h1 := headB_len hs hg h0
  have h2 := rowsB_len hs hg i hi h
  have h3 := hs.m
  rw [List.length_append]
  omega
theorem out1 {t : Tb} (hs : BSm t) (hg : t.go.length = t.mv.length) {i j : Nat} (hi : i < t.mv.length) (h : ∀ s, s < i → RowOk2 t s) (hj : ∀ m ∈ (t.mv.getD i []).take j, okMv m) : (headB t ++ rowsB t i ++ mvsB ((t.mv.getD i []).take j)).length ≤ 30000000000000 := by
  have h1 := out0 hs hg (by omega) (Nat.le_of_lt hi) h
  have h2 := mvsB_len hj
  have h3 := hs.ml hi
  rw [List.length_take] at h2
  rw [List.length_append]
  omega
theorem out2 {t : Tb} (hs : BSm t) (hg : t.go.length = t.mv.length) {i j : Nat} (hi : i < t.mv.length) (h : ∀ s, s < i → RowOk2 t s) (hm : ∀ m ∈ t.mv.getD i [], okMv m) (hj : ∀ x ∈ (t.go.getD i []).take j, okGo x) : (headB t ++ rowsB t i ++ mvsB (t.mv.getD i []) ++ gosB ((t.go.getD i []).take j)).length ≤ 40000000000000 := by
  have h1 := out1 (j := (t.mv.getD i []).length) hs hg hi h (by rw [List.take_length]; exact hm)
  have h2 := gosB_len hj
  have h3 := hs.gl (i := i) (by omega)
  rw [List.take_length] at h1
  rw [List.length_take] at h2
  rw [List.length_append]
  omega
end Go.Proofs.YtgdemplcpcacaaaFx

/-! What came in, its rows' lengths together. -/
namespace Go.Proofs.YtgdemplcpcacaaaFx
open Go Go.RowKit Go.ChangeShapes Go.WideShapes Go.ChangeAt Go.Deep
open Go.Proofs.Ytgdemplcpcacaaa (Rows.uptoBulk Rows.uptoBulkAll Rows.uptoSmall)
theorem sum_le : ∀ {l1 l2 : List Nat}, l1.length = l2.length → (∀ j (h1 : j < l1.length) (h2 : j < l2.length), l1[j] ≤ l2[j]) → l1.sum ≤ l2.sum
  | [], [], _, _ => Nat.le_refl _
  | [], _ :: _, h, _ => by simp at h
  | _ :: _, [], h, _ => by simp at h
  | a :: l1, b :: l2, h, hj => by
    rw [List.sum_cons, List.sum_cons]
    have h0 := hj 0 (by simp) (by simp)
    have ih := sum_le (l1 := l1) (l2 := l2) (by simpa using h) fun j h1 h2 => by
      have := hj (j + 1) (by simp; exact h1) (by simp; exact h2)
      simpa using this
    simp only [List.getElem_cons_zero] at h0
    omega
theorem bulk_sum {H : Type} : ∀ l : List (DataW H), Rows.uptoBulkAll l = (l.map Rows.uptoBulk).sum
  | [] => rfl
  | x :: r => by rw [Rows.uptoBulkAll, bulk_sum r, List.map_cons, List.sum_cons]
section
variable {P : Program} {t e : TypeId}
theorem rds_slS {α : Type} {K : Kn α} {B : α → Nat → Prop} (μ : α → Nat) (hμ : ∀ a n, B a n → μ a ≤ n) (ht : P.underlying t = some (.slice e)) (hc : P.cellsOf t = 1) (he : Rds P e K B) : Rds P t K.sl (fun xs n => ((xs.map μ).sum + 1 ≤ n ∧ xs.length + 1 ≤ n) ∧ ∀ x ∈ xs, ∃ m, m ≤ n ∧ B x m) := ⟨hc, fun {H enc w base spare held fuel cs x} h => by
  rcases open_slice ht h with ⟨rfl, rfl⟩ | ⟨a, len, cap, m, n, D, Pl, rfl, _, hl, hm, hmm, rfl, hx⟩
  · exact ⟨[], ⟨none, 0, rfl, Nat.le_refl _, Rd.nil _ _ _⟩, by simp [Rows.uptoBulk], fun x hx => by simp at hx⟩
  · have hlm : len ≤ m := by rw [hmm]; split <;> omega
    have hex : ∀ i, i < len → ∃ a' : α, (∃ cs', w.cells? base (a.add (i * P.cellsOf e)) (P.cellsOf e) = some cs' ∧ K.K w a' cs') ∧ B a' (Rows.uptoBulk (D i)) := fun i hi => by
      obtain ⟨cs', h1, h2⟩ := hx i (by omega)
      obtain ⟨a', h3, h4⟩ := he.rd h2
      exact ⟨a', ⟨cs', h1, h3⟩, h4⟩
    refine ⟨List.ofFn fun i : Fin len => Classical.choose (hex i.1 i.2), ⟨some a, cap, by rw [List.length_ofFn], by rw [List.length_ofFn]; exact hl, fun _ => rfl, fun j y hy => ?_⟩, ⟨?_, ?_⟩, fun y hy => ?_⟩
    · rw [List.getElem?_ofFn] at hy
      split at hy
      · rename_i hj
        simp only [Option.some.injEq] at hy
        subst hy
        obtain ⟨⟨cs', h1, h2⟩, _⟩ := Classical.choose_spec (hex j hj)
        refine ⟨cs', h2, fun i u hu => ?_⟩
        obtain ⟨_, h5, h6⟩ := World.cells?_some h1
        have hi : i < P.cellsOf e := by rw [← h5]; exact (List.getElem?_eq_some_iff.1 hu).1
        have := h6 i hi
        rw [hu, add_add, he.sz] at this
        exact this
      · simp at hy
    · have h1 : ((List.ofFn fun i : Fin len => Classical.choose (hex i.1 i.2)).map μ).sum ≤ (((List.range len).map D).map Rows.uptoBulk).sum := sum_le (by simp) fun j h1 h2 => by
        simp only [List.getElem_map, List.getElem_ofFn, List.getElem_range]
        have hj : j < len := by simpa using h1
        exact hμ _ _ (Classical.choose_spec (hex j hj)).2
      rw [← bulk_sum] at h1
      simp only [Rows.uptoBulk]
      omega
    · rw [List.length_ofFn]
      have h1 := bulk_len ((List.range len).map D)
      rw [List.length_map, List.length_range] at h1
      simp only [Rows.uptoBulk]
      omega
    · obtain ⟨i, hi⟩ := (List.mem_ofFn ..).1 hy
      subst hi
      refine ⟨Rows.uptoBulk (D i.1), ?_, (Classical.choose_spec (hex i.1 i.2)).2⟩
      have h1 := bulk_part (d := D i.1) (l := (List.range len).map D) (List.mem_map.2 ⟨i.1, List.mem_range.2 i.2, rfl⟩)
      simp only [Rows.uptoBulk]
      omega⟩
end
/-- So many elements in all rows. -/
def rowsN {α : Type} (xs : List (List α)) : Nat := (xs.map fun r => r.length + 1).sum
theorem rowsN_succ {α : Type} {xs : List (List α)} {i : Nat} (h : i < xs.length) : rowsN (xs.take (i + 1)) = rowsN (xs.take i) + ((xs.getD i []).length + 1) := by
  rw [rowsN, take_succ' [] h, List.map_append, List.sum_append]
  simp [rowsN]
theorem rowsB_len2 {t : Tb} (hg : t.go.length = t.mv.length) : ∀ i, i ≤ t.mv.length → (∀ s, s < i → RowOk2 t s) → (rowsB t i).length ≤ 10 * rowsN (t.mv.take i) + 5 * rowsN (t.go.take i)
  | 0, _, _ => by simp [rowsB]
  | i + 1, hi, h => by
    have h1 := rowsB_len2 hg i (by omega) fun s hs => h s (by omega)
    have h2 := mvsB_len (h i (by omega)).1
    have h3 := gosB_len (h i (by omega)).2
    rw [rowsB_succ, List.length_append, List.length_append, rowsN_succ (by omega), rowsN_succ (by omega)]
    omega
theorem tbB_len {t : Tb} (hb : BSm t) (h : ByOk t) (h1 : rowsN t.mv ≤ 1048576) (h2 : rowsN t.go ≤ 1048576) : (tbB t).length ≤ 549755813888 := by
  obtain ⟨⟨r1, r2, r3, r4⟩, hok⟩ := h
  have h3 := headB_len hb r3 r1
  have h4 := rowsB_len2 r3 t.mv.length (Nat.le_refl _) hok
  rw [List.take_length, show t.go.take t.mv.length = t.go by rw [← r3, List.take_length]] at h4
  rw [tbB, List.length_append]
  omega
end Go.Proofs.YtgdemplcpcacaaaFx

/-! Grammars that came in, as they read. -/
namespace Go.Proofs.YtgdemplcpcacaaaFx
open Go Go.RowKit Go.ChangeShapes Go.WideShapes Go.ChangeAt Go.Deep
open Go.Proofs.Ytgdemplcpcacaaa (Rows.uptoBulk Rows.uptoBulkAll Rows.uptoSmall)
/-- Read where the bulk is at most N. -/
structure RdsN (P : Program) (t : TypeId) {α : Type} (K : Kn α) (B : α → Nat → Prop) (N : Nat) : Prop where
  sz : P.cellsOf t = K.sz
  rd : ∀ {H : Type} {enc : TypeId × Value → H} {w : World} {base : Nat} {spare : Nat → Bool} {held : Bool} {fuel : Nat} {cs : List Value} {x : DataW H × List MemPlace}, DataW.trod enc P w base spare held fuel t cs = some x → Rows.uptoBulk x.1 ≤ N → ∃ a, K.K w a cs ∧ B a (Rows.uptoBulk x.1)
section
variable {P : Program} {t e : TypeId}
theorem Rds.n {α : Type} {K : Kn α} {B : α → Nat → Prop} (h : Rds P t K B) (N : Nat) : RdsN P t K B N := ⟨h.sz, fun hx _ => h.rd hx⟩
theorem rdsN_sl {α : Type} {K : Kn α} {B : α → Nat → Prop} {N : Nat} (μ : α → Nat) (hμ : ∀ a n, B a n → μ a ≤ n) (ht : P.underlying t = some (.slice e)) (hc : P.cellsOf t = 1) (he : RdsN P e K B N) : RdsN P t K.sl (fun xs n => ((xs.map μ).sum + 1 ≤ n ∧ xs.length + 1 ≤ n) ∧ ∀ x ∈ xs, ∃ m, m ≤ n ∧ B x m) (N + 1) := ⟨hc, fun {H enc w base spare held fuel cs x} h hN => by
  rcases open_slice ht h with ⟨rfl, rfl⟩ | ⟨a, len, cap, m, n, D, Pl, rfl, _, hl, hm, hmm, rfl, hx⟩
  · exact ⟨[], ⟨none, 0, rfl, Nat.le_refl _, Rd.nil _ _ _⟩, by simp [Rows.uptoBulk], fun x hx => by simp at hx⟩
  · have hlm : len ≤ m := by rw [hmm]; split <;> omega
    have hDi : ∀ i, i < len → Rows.uptoBulk (D i) ≤ N := fun i hi => by
      have h1 := bulk_part (d := D i) (l := (List.range len).map D) (List.mem_map.2 ⟨i, List.mem_range.2 hi, rfl⟩)
      simp only [Rows.uptoBulk] at hN
      omega
    have hex : ∀ i, i < len → ∃ a' : α, (∃ cs', w.cells? base (a.add (i * P.cellsOf e)) (P.cellsOf e) = some cs' ∧ K.K w a' cs') ∧ B a' (Rows.uptoBulk (D i)) := fun i hi => by
      obtain ⟨cs', h1, h2⟩ := hx i (by omega)
      obtain ⟨a', h3, h4⟩ := he.rd h2 (hDi i hi)
      exact ⟨a', ⟨cs', h1, h3⟩, h4⟩
    refine ⟨List.ofFn fun i : Fin len => Classical.choose (hex i.1 i.2), ⟨some a, cap, by rw [List.length_ofFn], by rw [List.length_ofFn]; exact hl, fun _ => rfl, fun j y hy => ?_⟩, ⟨?_, ?_⟩, fun y hy => ?_⟩
    · rw [List.getElem?_ofFn] at hy
      split at hy
      · rename_i hj
        simp only [Option.some.injEq] at hy
        subst hy
        obtain ⟨⟨cs', h1, h2⟩, _⟩ := Classical.choose_spec (hex j hj)
        refine ⟨cs', h2, fun i u hu => ?_⟩
        obtain ⟨_, h5, h6⟩ := World.cells?_some h1
        have hi : i < P.cellsOf e := by rw [← h5]; exact (List.getElem?_eq_some_iff.1 hu).1
        have := h6 i hi
        rw [hu, add_add, he.sz] at this
        exact this
      · simp at hy
    · have h1 : ((List.ofFn fun i : Fin len => Classical.choose (hex i.1 i.2)).map μ).sum ≤ (((List.range len).map D).map Rows.uptoBulk).sum := sum_le (by simp) fun j h1 h2 => by
        simp only [List.getElem_map, List.getElem_ofFn, List.getElem_range]
        have hj : j < len := by simpa using h1
        exact hμ _ _ (Classical.choose_spec (hex j hj)).2
      rw [← bulk_sum] at h1
      simp only [Rows.uptoBulk]
      omega
    · rw [List.length_ofFn]
      have h1 := bulk_len ((List.range len).map D)
      rw [List.length_map, List.length_range] at h1
      simp only [Rows.uptoBulk]
      omega
    · obtain ⟨i, hi⟩ := (List.mem_ofFn ..).1 hy
      subst hi
      refine ⟨Rows.uptoBulk (D i.1), ?_, (Classical.choose_spec (hex i.1 i.2)).2⟩
      have h1 := bulk_part (d := D i.1) (l := (List.range len).map D) (List.mem_map.2 ⟨i.1, List.mem_range.2 i.2, rfl⟩)
      simp only [Rows.uptoBulk]
      omega⟩
/-- A struct's fields. -/
theorem fields_of {H : Type} {enc : TypeId × Value → H} {w : World} {base : Nat} {spare : Nat → Bool} {held : Bool} {fuel : Nat} {cs : List Value} {x : DataW H × List MemPlace} {fs : Array Field} (ht : P.underlying t = some (.struct fs)) (h : DataW.trod enc P w base spare held fuel t cs = some x) :
    ∃ (xs : List (DataW H × List MemPlace)) (n : Nat), Rows.uptoBulk x.1 = Rows.uptoBulkAll (xs.map (·.1)) + 1 ∧ cs.length = P.cellsOf t ∧ xs.length = fs.size ∧ ∀ (i : Nat) (f : Field), fs[i]? = some f → ∃ y, xs[i]? = some y ∧ DataW.trod enc P w base spare held n f.type ((cs.drop f.offset).take (P.cellsOf f.type)) = some y := by
  obtain ⟨xs, n, _, rfl, hl, hlen, hf⟩ := DataW.trod_struct ht h
  refine ⟨xs, n, rfl, hl, hlen, fun i f hif => ?_⟩
  have hi : i < xs.length := by rw [hlen]; exact (Array.getElem?_eq_some_iff.1 hif).1
  have := hf i f hif
  rw [List.getElem?_eq_getElem hi] at this
  exact ⟨_, List.getElem?_eq_getElem hi, this⟩
end
theorem cnts_sum {α : Type} : ∀ ts : List (Tr α), Tr.cnts ts = (ts.map Tr.cnt).sum
  | [] => rfl
  | t :: r => by rw [Tr.cnts, cnts_sum r, List.map_cons, List.sum_cons]
theorem four_len {cs : List Value} (h : cs.length = 4) : ∃ a b c d, cs = [a, b, c, d] := by
  match cs, h with
  | [a, b, c, d], _ => exact ⟨a, b, c, d, rfl⟩
theorem five_len {cs : List Value} (h : cs.length = 5) : ∃ a b c d e, cs = [a, b, c, d, e] := by
  match cs, h with
  | [a, b, c, d, e], _ => exact ⟨a, b, c, d, e, rfl⟩
theorem seven_len {cs : List Value} (h : cs.length = 7) : ∃ a b c d e f g, cs = [a, b, c, d, e, f, g] := by
  match cs, h with
  | [a, b, c, d, e, f, g], _ => exact ⟨a, b, c, d, e, f, g, rfl⟩
theorem part_le {H : Type} {xs : List (DataW H × List MemPlace)} {i : Nat} {y : DataW H × List MemPlace} (h : xs[i]? = some y) : Rows.uptoBulk y.1 ≤ Rows.uptoBulkAll (xs.map (·.1)) :=
  bulk_part (List.mem_map.2 ⟨y, List.mem_of_getElem? h, rfl⟩)
section
variable {P : Program} {ti tz ta ts tr tp tk tc tq tg : TypeId}
/-- The types of a grammar's parts: int, string, action, actions, numbers, production, texts, levels, productions, grammar. -/
structure GTypes (P : Program) (ti tz ta ts tr tp : TypeId) : Prop where
  i : Rds P ti (kInt .i64) (fun a n => (Lit.int .i64 a).wf = true ∧ 1 ≤ n)
  z : Rds P tz kStr (fun a n => a.size + 1 ≤ n)
  a : ∃ f0 f1 f2 f3 : Field, P.underlying ta = some (.struct #[f0, f1, f2, f3]) ∧ (f0.type, f0.offset) = (ti, 0) ∧ (f1.type, f1.offset) = (ti, 1) ∧ (f2.type, f2.offset) = (tz, 2) ∧ (f3.type, f3.offset) = (ts, 3)
  ca : P.cellsOf ta = 4
  s : P.underlying ts = some (.slice ta)
  cs : P.cellsOf ts = 1
  r : Rds P tr (kInt .i64).sl (fun xs n => xs.length + 1 ≤ n ∧ ∀ x ∈ xs, ∃ m, m ≤ n ∧ (Lit.int .i64 x).wf = true ∧ 1 ≤ m)
  p : ∃ f0 f1 f2 f3 : Field, P.underlying tp = some (.struct #[f0, f1, f2, f3]) ∧ (f0.type, f0.offset) = (ti, 0) ∧ (f1.type, f1.offset) = (tr, 1) ∧ (f2.type, f2.offset) = (ti, 2) ∧ (f3.type, f3.offset) = (ta, 3)
  cp : P.cellsOf tp = 7
theorem rdsN_tr (T : GTypes P ti tz ta ts tr tp) : ∀ N, RdsN P ta (kTr fAc) (fun a n => a.cnt ≤ n) N := fun N => by
  induction N using Nat.strongRecOn with
  | ind N ih =>
    refine ⟨T.ca, fun {H enc w base spare held fuel cs x} h hN => ?_⟩
    obtain ⟨f0, f1, f2, f3, hu, h0, h1, h2, h3⟩ := T.a
    simp only [Prod.mk.injEq] at h0 h1 h2 h3
    obtain ⟨xs, n, hb, hl, hlen, hf⟩ := fields_of hu h
    rw [T.ca] at hl
    obtain ⟨c0, c1, c2, c3, rfl⟩ := four_len hl
    obtain ⟨y0, i0, e0⟩ := hf 0 f0 rfl
    obtain ⟨y1, i1, e1⟩ := hf 1 f1 rfl
    obtain ⟨y2, i2, e2⟩ := hf 2 f2 rfl
    obtain ⟨y3, i3, e3⟩ := hf 3 f3 rfl
    have s1 : P.cellsOf ti = 1 := T.i.sz
    have s2 : P.cellsOf tz = 1 := T.z.sz
    rw [h0.1, h0.2, s1] at e0
    rw [h1.1, h1.2, s1] at e1
    rw [h2.1, h2.2, s2] at e2
    rw [h3.1, h3.2, T.cs] at e3
    obtain ⟨a0, k0, _⟩ := T.i.rd e0
    obtain ⟨a1, k1, _⟩ := T.i.rd e1
    obtain ⟨a2, k2, _⟩ := T.z.rd e2
    have p3 := part_le i3
    have q3 := bulk_one y3.1
    obtain ⟨M, hM⟩ : ∃ M, Rows.uptoBulk y3.1 = M + 1 := ⟨Rows.uptoBulk y3.1 - 1, by omega⟩
    obtain ⟨kids, ⟨A, c, hc, hle, hr⟩, ⟨hsum, _⟩, _⟩ := (rdsN_sl Tr.cnt (fun a n h => h) T.s T.cs (ih M (by omega))).rd e3 (by omega)
    have g0 : [c0] = [Value.int .i64 a0] := k0
    have g1 : [c1] = [Value.int .i64 a1] := k1
    have g2 : [c2] = [Value.string a2] := k2
    have g3 : [c3] = [Value.slice A kids.length c] := hc
    simp only [List.cons.injEq, and_true] at g0 g1 g2 g3
    subst g0 g1 g2 g3
    refine ⟨.mk ⟨a0, a1, a2⟩ kids, Tr.K.mk (f := fAc) (x := ⟨a0, a1, a2⟩) hle hr, ?_⟩
    rw [Tr.cnt, cnts_sum]
    omega
theorem rdsN_pr (T : GTypes P ti tz ta ts tr tp) (N : Nat) : RdsN P tp kPr (fun p n => p.right.length ≤ n ∧ p.act.cnt ≤ n) N := ⟨T.cp, fun {H enc w base spare held fuel cs x} h hN => by
  obtain ⟨f0, f1, f2, f3, hu, h0, h1, h2, h3⟩ := T.p
  simp only [Prod.mk.injEq] at h0 h1 h2 h3
  obtain ⟨xs, n, hb, hl, hlen, hf⟩ := fields_of hu h
  rw [T.cp] at hl
  obtain ⟨c0, c1, c2, c3, c4, c5, c6, rfl⟩ := seven_len hl
  obtain ⟨y0, i0, e0⟩ := hf 0 f0 rfl
  obtain ⟨y1, i1, e1⟩ := hf 1 f1 rfl
  obtain ⟨y2, i2, e2⟩ := hf 2 f2 rfl
  obtain ⟨y3, i3, e3⟩ := hf 3 f3 rfl
  have s1 : P.cellsOf ti = 1 := T.i.sz
  have s2 : P.cellsOf tr = 1 := T.r.sz
  rw [h0.1, h0.2, s1] at e0
  rw [h1.1, h1.2, s2] at e1
  rw [h2.1, h2.2, s1] at e2
  rw [h3.1, h3.2, T.ca] at e3
  have p1 := part_le i1
  have p3 := part_le i3
  obtain ⟨a0, k0, _⟩ := T.i.rd e0
  obtain ⟨a1, ⟨A, c, hc, hle, hr⟩, b1, _⟩ := T.r.rd e1
  obtain ⟨a2, k2, _⟩ := T.i.rd e2
  obtain ⟨a3, k3, b3⟩ := (rdsN_tr T (Rows.uptoBulk y3.1)).rd e3 (Nat.le_refl _)
  obtain ⟨B, k, hB, hBl, hBr⟩ := Tr.K.open k3
  have g0 : [c0] = [Value.int .i64 a0] := k0
  have g1 : [c1] = [Value.slice A a1.length c] := hc
  have g2 : [c2] = [Value.int .i64 a2] := k2
  have g3 : [c3, c4, c5, c6] = [Value.int .i64 a3.x.kind, .int .i64 a3.x.at_, .string a3.x.name, .slice B a3.kids.length k] := hB
  simp only [List.cons.injEq, and_true] at g0 g1 g2 g3
  obtain ⟨r1, r2, r3, r4⟩ := g3
  subst g0 g1 g2 r1 r2 r3 r4
  exact ⟨⟨a0, a1, a2, a3⟩, ⟨A, c, B, k, rfl, ⟨hle, hBl⟩, hr, hBr⟩, by dsimp only; omega, by dsimp only; omega⟩⟩
/-- A grammar: its row of productions, its texts, its levels. -/
structure GTypes2 (P : Program) (ti tp tk tc tq tg : TypeId) : Prop where
  k : Rds P tk kStr.sl (fun xs n => xs.length + 1 ≤ n ∧ ∀ x ∈ xs, ∃ m, m ≤ n ∧ x.size + 1 ≤ m)
  c : Rds P tc fMv.kn.sl (fun xs n => xs.length + 1 ≤ n ∧ ∀ x ∈ xs, ∃ m, m ≤ n ∧ (I64 x.d ∧ I64 x.n) ∧ 1 ≤ m)
  q : P.underlying tq = some (.slice tp)
  cq : P.cellsOf tq = 1
  g : ∃ f0 f1 f2 f3 f4 : Field, P.underlying tg = some (.struct #[f0, f1, f2, f3, f4]) ∧ (f0.type, f0.offset) = (tk, 0) ∧ (f1.type, f1.offset) = (tc, 1) ∧ (f2.type, f2.offset) = (tk, 2) ∧ (f3.type, f3.offset) = (tq, 3) ∧ (f4.type, f4.offset) = (ti, 4)
  cg : P.cellsOf tg = 5
theorem rd_pl (T : GTypes P ti tz ta ts tr tp) (T2 : GTypes2 P ti tp tk tc tq tg) {H : Type} {enc : TypeId × Value → H} {w : World} {base : Nat} {spare : Nat → Bool} {held : Bool} {fuel : Nat} {cs : List Value} {x : DataW H × List MemPlace} (h : DataW.trod enc P w base spare held fuel tg cs = some x) (hN : Rows.uptoBulk x.1 ≤ 1048576) :
    ∃ (g : Pl) (a : PlA), cs = g.cs a ∧ g.rd w a ∧ g.ok ∧ (g.kinds.length ≤ a.ck ∧ g.precs.length ≤ a.cp ∧ g.rules.length ≤ a.cr ∧ g.prods.length ≤ a.cq) ∧ I64 g.start ∧ (g.prods.length + 1 ≤ Rows.uptoBulk x.1) := by
  obtain ⟨f0, f1, f2, f3, f4, hu, h0, h1, h2, h3, h4⟩ := T2.g
  simp only [Prod.mk.injEq] at h0 h1 h2 h3 h4
  obtain ⟨xs, n, hb, hl, hlen, hf⟩ := fields_of hu h
  rw [T2.cg] at hl
  obtain ⟨c0, c1, c2, c3, c4, rfl⟩ := five_len hl
  obtain ⟨y0, i0, e0⟩ := hf 0 f0 rfl
  obtain ⟨y1, i1, e1⟩ := hf 1 f1 rfl
  obtain ⟨y2, i2, e2⟩ := hf 2 f2 rfl
  obtain ⟨y3, i3, e3⟩ := hf 3 f3 rfl
  obtain ⟨y4, i4, e4⟩ := hf 4 f4 rfl
  have s1 : P.cellsOf tk = 1 := T2.k.sz
  have s2 : P.cellsOf tc = 1 := T2.c.sz
  have s3 : P.cellsOf ti = 1 := T.i.sz
  rw [h0.1, h0.2, s1] at e0
  rw [h1.1, h1.2, s2] at e1
  rw [h2.1, h2.2, s1] at e2
  rw [h3.1, h3.2, T2.cq] at e3
  rw [h4.1, h4.2, s3] at e4
  have p0 := part_le i0
  have p1 := part_le i1
  have p2 := part_le i2
  have p3 := part_le i3
  have q3 := bulk_one y3.1
  obtain ⟨M, hM⟩ : ∃ M, Rows.uptoBulk y3.1 = M + 1 := ⟨Rows.uptoBulk y3.1 - 1, by omega⟩
  obtain ⟨a0, ⟨A0, z0, k0, l0, r0⟩, b0, d0⟩ := T2.k.rd e0
  obtain ⟨a1, ⟨A1, z1, k1, l1, r1⟩, b1, d1⟩ := T2.c.rd e1
  obtain ⟨a2, ⟨A2, z2, k2, l2, r2⟩, b2, d2⟩ := T2.k.rd e2
  obtain ⟨a3, ⟨A3, z3, k3, l3, r3⟩, ⟨_, b3⟩, d3⟩ := (rdsN_sl (fun p : Pr => 0) (fun a n h => Nat.zero_le _) T2.q T2.cq (rdsN_pr T M)).rd e3 (by omega)
  obtain ⟨a4, k4, b4, _⟩ := T.i.rd e4
  have g0 : [c0] = [Value.slice A0 a0.length z0] := k0
  have g1 : [c1] = [Value.slice A1 a1.length z1] := k1
  have g2 : [c2] = [Value.slice A2 a2.length z2] := k2
  have g3 : [c3] = [Value.slice A3 a3.length z3] := k3
  have g4 : [c4] = [Value.int .i64 a4] := k4
  simp only [List.cons.injEq, and_true] at g0 g1 g2 g3 g4
  subst g0 g1 g2 g3 g4
  refine ⟨⟨a0, a1, a2, a3, a4⟩, ⟨A0, z0, A1, z1, A2, z2, A3, z3⟩, rfl, ⟨r0, r1, r2, r3⟩, ⟨?_, ?_, ?_, ?_, ?_, ?_, ?_, ?_⟩, ⟨l0, l1, l2, l3⟩, i64_wf b4, by dsimp only; omega⟩
  · dsimp only; omega
  · intro s hs
    obtain ⟨m, m1, m2⟩ := d0 s hs
    omega
  · dsimp only; omega
  · dsimp only; omega
  · intro s hs
    obtain ⟨m, m1, m2⟩ := d2 s hs
    omega
  · dsimp only; omega
  · intro p hp
    obtain ⟨m, m1, m2, m3⟩ := d3 p hp
    omega
  · intro p hp
    obtain ⟨m, m1, m2, m3⟩ := d3 p hp
    omega
end
end Go.Proofs.YtgdemplcpcacaaaFx

/-! Derivations, nodes and data that came in, as they read. -/
namespace Go.Proofs.YtgdemplcpcacaaaFx
open Go Go.RowKit Go.ChangeShapes Go.WideShapes Go.ChangeAt Go.Deep
open Go.Proofs.Ytgdemplcpcacaaa (Rows.uptoBulk Rows.uptoBulkAll Rows.uptoSmall)
theorem three_len {cs : List Value} (h : cs.length = 3) : ∃ a b c, cs = [a, b, c] := by
  match cs, h with
  | [a, b, c], _ => exact ⟨a, b, c, rfl⟩
section
variable {P : Program} {ti tz ta ts td tc tcs tds tzs tg tw tr tt : TypeId} {N : Nat}
abbrev RInt (P : Program) (ti : TypeId) : Prop := Rds P ti (kInt .i64) (fun a n => (Lit.int .i64 a).wf = true ∧ 1 ≤ n)
abbrev RStr (P : Program) (tz : TypeId) : Prop := Rds P tz kStr (fun a n => a.size + 1 ≤ n)
/-- Derivations. -/
structure DvTypes (P : Program) (ti ta ts : TypeId) : Prop where
  i : RInt P ti
  a : ∃ f0 f1 f2 : Field, P.underlying ta = some (.struct #[f0, f1, f2]) ∧ (f0.type, f0.offset) = (ti, 0) ∧ (f1.type, f1.offset) = (ti, 1) ∧ (f2.type, f2.offset) = (ts, 2)
  ca : P.cellsOf ta = 3
  s : P.underlying ts = some (.slice ta)
  cs : P.cellsOf ts = 1
theorem rdsN_dv (T : DvTypes P ti ta ts) : ∀ N, RdsN P ta (kTr fDv) (fun a n => a.cnt ≤ n) N := fun N => by
  induction N using Nat.strongRecOn with
  | ind N ih =>
    refine ⟨T.ca, fun {H enc w base spare held fuel cs x} h hN => ?_⟩
    obtain ⟨f0, f1, f2, hu, h0, h1, h2⟩ := T.a
    simp only [Prod.mk.injEq] at h0 h1 h2
    obtain ⟨xs, n, hb, hl, hlen, hf⟩ := fields_of hu h
    rw [T.ca] at hl
    obtain ⟨c0, c1, c2, rfl⟩ := three_len hl
    obtain ⟨y0, i0, e0⟩ := hf 0 f0 rfl
    obtain ⟨y1, i1, e1⟩ := hf 1 f1 rfl
    obtain ⟨y2, i2, e2⟩ := hf 2 f2 rfl
    have s1 : P.cellsOf ti = 1 := T.i.sz
    rw [h0.1, h0.2, s1] at e0
    rw [h1.1, h1.2, s1] at e1
    rw [h2.1, h2.2, T.cs] at e2
    obtain ⟨a0, k0, _⟩ := T.i.rd e0
    obtain ⟨a1, k1, _⟩ := T.i.rd e1
    have p3 := part_le i2
    have q3 := bulk_one y2.1
    obtain ⟨M, hM⟩ : ∃ M, Rows.uptoBulk y2.1 = M + 1 := ⟨Rows.uptoBulk y2.1 - 1, by omega⟩
    obtain ⟨kids, ⟨A, c, hc, hle, hr⟩, ⟨hsum, _⟩, _⟩ := (rdsN_sl Tr.cnt (fun a n h => h) T.s T.cs (ih M (by omega))).rd e2 (by omega)
    have g0 : [c0] = [Value.int .i64 a0] := k0
    have g1 : [c1] = [Value.int .i64 a1] := k1
    have g2 : [c2] = [Value.slice A kids.length c] := hc
    simp only [List.cons.injEq, and_true] at g0 g1 g2
    subst g0 g1 g2
    refine ⟨.mk ⟨a0, a1⟩ kids, Tr.K.mk (f := fDv) (x := ⟨a0, a1⟩) hle hr, ?_⟩
    rw [Tr.cnt, cnts_sum]
    omega
/-- Nodes. -/
structure NdTypes (P : Program) (ti tz ta ts : TypeId) : Prop where
  i : RInt P ti
  z : RStr P tz
  a : ∃ f0 f1 f2 f3 : Field, P.underlying ta = some (.struct #[f0, f1, f2, f3]) ∧ (f0.type, f0.offset) = (ti, 0) ∧ (f1.type, f1.offset) = (tz, 1) ∧ (f2.type, f2.offset) = (ti, 2) ∧ (f3.type, f3.offset) = (ts, 3)
  ca : P.cellsOf ta = 4
  s : P.underlying ts = some (.slice ta)
  cs : P.cellsOf ts = 1
def ndSm (n : Nat) (x : NdP) (k : Nat) : Prop := x.name.size ≤ n ∧ k ≤ n
theorem Tr.All.imp {α : Type} {p q : α → Nat → Prop} (h : ∀ x k, p x k → q x k) : ∀ t : Tr α, t.All p → t.All q := Tr.ind fun x kids ih ha => by
  obtain ⟨h1, h2⟩ := (Tr.All_eq _).1 ha
  exact (Tr.All_eq _).2 ⟨h _ _ h1, (Tr.Alls_iff _).2 fun t ht => ih t ht ((Tr.Alls_iff _).1 h2 t ht)⟩
theorem rdsN_nd (T : NdTypes P ti tz ta ts) : ∀ N, RdsN P ta (kTr fNd) (fun a n => a.cnt ≤ n ∧ a.All (ndSm n)) N := fun N => by
  induction N using Nat.strongRecOn with
  | ind N ih =>
    refine ⟨T.ca, fun {H enc w base spare held fuel cs x} h hN => ?_⟩
    obtain ⟨f0, f1, f2, f3, hu, h0, h1, h2, h3⟩ := T.a
    simp only [Prod.mk.injEq] at h0 h1 h2 h3
    obtain ⟨xs, n, hb, hl, hlen, hf⟩ := fields_of hu h
    rw [T.ca] at hl
    obtain ⟨c0, c1, c2, c3, rfl⟩ := four_len hl
    obtain ⟨y0, i0, e0⟩ := hf 0 f0 rfl
    obtain ⟨y1, i1, e1⟩ := hf 1 f1 rfl
    obtain ⟨y2, i2, e2⟩ := hf 2 f2 rfl
    obtain ⟨y3, i3, e3⟩ := hf 3 f3 rfl
    have s1 : P.cellsOf ti = 1 := T.i.sz
    have s2 : P.cellsOf tz = 1 := T.z.sz
    rw [h0.1, h0.2, s1] at e0
    rw [h1.1, h1.2, s2] at e1
    rw [h2.1, h2.2, s1] at e2
    rw [h3.1, h3.2, T.cs] at e3
    obtain ⟨a0, k0, _⟩ := T.i.rd e0
    obtain ⟨a1, k1, b1⟩ := T.z.rd e1
    obtain ⟨a2, k2, _⟩ := T.i.rd e2
    have p1 := part_le i1
    have p3 := part_le i3
    have q3 := bulk_one y3.1
    obtain ⟨M, hM⟩ : ∃ M, Rows.uptoBulk y3.1 = M + 1 := ⟨Rows.uptoBulk y3.1 - 1, by omega⟩
    obtain ⟨kids, ⟨A, c, hc, hle, hr⟩, ⟨hsum, hkl⟩, hel⟩ := (rdsN_sl Tr.cnt (fun a n h => h.1) T.s T.cs (ih M (by omega))).rd e3 (by omega)
    have g0 : [c0] = [Value.int .i64 a0] := k0
    have g1 : [c1] = [Value.string a1] := k1
    have g2 : [c2] = [Value.int .i64 a2] := k2
    have g3 : [c3] = [Value.slice A kids.length c] := hc
    simp only [List.cons.injEq, and_true] at g0 g1 g2 g3
    subst g0 g1 g2 g3
    refine ⟨.mk ⟨a0, a1, a2⟩ kids, Tr.K.mk (f := fNd) (x := ⟨a0, a1, a2⟩) hle hr, ?_, (Tr.All_eq _).2 ⟨⟨show a1.size ≤ _ by omega, show kids.length ≤ _ by omega⟩, (Tr.Alls_iff _).2 fun t ht => ?_⟩⟩
    · rw [Tr.cnt, cnts_sum]
      omega
    · obtain ⟨m, hm, _, hall⟩ := hel t ht
      exact Tr.All.imp (fun y k hy => ⟨by have := hy.1; omega, by have := hy.2; omega⟩) t hall
/-- Constructors, data. -/
structure DtTypes (P : Program) (tz tzs tc tcs td tds : TypeId) : Prop where
  z : RStr P tz
  zs : Rds P tzs kStr.sl (fun xs n => xs.length + 1 ≤ n ∧ ∀ x ∈ xs, ∃ m, m ≤ n ∧ x.size + 1 ≤ m)
  c : ∃ f0 f1 : Field, P.underlying tc = some (.struct #[f0, f1]) ∧ (f0.type, f0.offset) = (tz, 0) ∧ (f1.type, f1.offset) = (tzs, 1)
  cc : P.cellsOf tc = 2
  cs : P.underlying tcs = some (.slice tc)
  ccs : P.cellsOf tcs = 1
  d : ∃ f0 f1 : Field, P.underlying td = some (.struct #[f0, f1]) ∧ (f0.type, f0.offset) = (tz, 0) ∧ (f1.type, f1.offset) = (tcs, 1)
  cd : P.cellsOf td = 2
  ds : P.underlying tds = some (.slice td)
  cds : P.cellsOf tds = 1
def CtSm (n : Nat) (c : Ct) : Prop := c.name.size ≤ n ∧ c.fields.length ≤ n ∧ ∀ s ∈ c.fields, s.size ≤ n
theorem rds_ct (T : DtTypes P tz tzs tc tcs td tds) : Rds P tc kCt (fun a n => CtSm n a) := ⟨T.cc, fun {H enc w base spare held fuel cs x} h => by
  obtain ⟨f0, f1, hu, h0, h1⟩ := T.c
  simp only [Prod.mk.injEq] at h0 h1
  obtain ⟨xs, n, hb, hl, hlen, hf⟩ := fields_of hu h
  rw [T.cc] at hl
  obtain ⟨c0, c1, rfl⟩ := two_len hl
  obtain ⟨y0, i0, e0⟩ := hf 0 f0 rfl
  obtain ⟨y1, i1, e1⟩ := hf 1 f1 rfl
  have s0 : P.cellsOf tz = 1 := T.z.sz
  have s1 : P.cellsOf tzs = 1 := T.zs.sz
  rw [h0.1, h0.2, s0] at e0
  rw [h1.1, h1.2, s1] at e1
  obtain ⟨a0, k0, b0⟩ := T.z.rd e0
  obtain ⟨a1, ⟨A, c, k1, l1, r1⟩, b1, d1⟩ := T.zs.rd e1
  have p0 := part_le i0
  have p1 := part_le i1
  have g0 : [c0] = [Value.string a0] := k0
  have g1 : [c1] = [Value.slice A a1.length c] := k1
  simp only [List.cons.injEq, and_true] at g0 g1
  subst g0 g1
  exact ⟨⟨a0, a1⟩, ⟨A, c, rfl, l1, r1⟩, by dsimp only; omega, by dsimp only; omega, fun s hs => by obtain ⟨m, hm, h2⟩ := d1 s hs; omega⟩⟩
theorem rds_dt (T : DtTypes P tz tzs tc tcs td tds) : Rds P td kDt (fun a n => a.name.size ≤ n ∧ a.ctors.length ≤ n ∧ ∀ c ∈ a.ctors, CtSm n c) := ⟨T.cd, fun {H enc w base spare held fuel cs x} h => by
  obtain ⟨f0, f1, hu, h0, h1⟩ := T.d
  simp only [Prod.mk.injEq] at h0 h1
  obtain ⟨xs, n, hb, hl, hlen, hf⟩ := fields_of hu h
  rw [T.cd] at hl
  obtain ⟨c0, c1, rfl⟩ := two_len hl
  obtain ⟨y0, i0, e0⟩ := hf 0 f0 rfl
  obtain ⟨y1, i1, e1⟩ := hf 1 f1 rfl
  have s0 : P.cellsOf tz = 1 := T.z.sz
  rw [h0.1, h0.2, s0] at e0
  rw [h1.1, h1.2, T.ccs] at e1
  obtain ⟨a0, k0, b0⟩ := T.z.rd e0
  obtain ⟨a1, ⟨A, c, k1, l1, r1⟩, b1, d1⟩ := (rds_sl T.cs T.ccs (rds_ct T)).rd e1
  have p0 := part_le i0
  have p1 := part_le i1
  have g0 : [c0] = [Value.string a0] := k0
  have g1 : [c1] = [Value.slice A a1.length c] := k1
  simp only [List.cons.injEq, and_true] at g0 g1
  subst g0 g1
  exact ⟨⟨a0, a1⟩, ⟨A, c, rfl, l1, r1⟩, by dsimp only; omega, by dsimp only; omega, fun c hc => by obtain ⟨m, hm, h2, h3, h4⟩ := d1 c hc; exact ⟨by omega, by omega, fun s hs => by have := h4 s hs; omega⟩⟩⟩
theorem flatd_len : ∀ l : List Dt, (flat l).length = (l.map fun d => d.ctors.length).sum
  | [] => rfl
  | d :: r => by
    have := flatd_len r
    rw [show flat (d :: r) = ctsOf d d.ctors ++ flat r from rfl, List.length_append, this, List.map_cons, List.sum_cons]
    unfold ctsOf
    rw [List.length_map]
/-- Rows of data. -/
theorem rdsN_dts (T : DtTypes P tz tzs tc tcs td tds) (hN : N ≤ 1048576) : RdsN P tds kDt.sl (fun l n => DOk l ∧ l.length + 1 ≤ n) N := ⟨T.cds, fun {H enc w base spare held fuel cs x} h hx => by
  obtain ⟨l, hk, ⟨h1, h2⟩, h3⟩ := (rdsN_sl (fun d : Dt => d.ctors.length) (fun a n h => h.2.1) T.ds T.cds ((rds_dt T).n N)).rd h (by omega)
  refine ⟨l, hk, ⟨by omega, fun d hd => ?_, by rw [flatd_len]; omega, fun p hp => ?_⟩, h2⟩
  · obtain ⟨m, hm, h4, _⟩ := h3 d hd
    omega
  · obtain ⟨d, hd, hp2⟩ := List.mem_flatMap.1 hp
    obtain ⟨c, hc, rfl⟩ := List.mem_map.1 hp2
    obtain ⟨m, hm, _, _, h4⟩ := h3 d hd
    obtain ⟨h5, h6, h7⟩ := h4 c hc
    exact ⟨by dsimp only; omega, by dsimp only; omega, fun s hs => by have := h7 s hs; omega⟩⟩
/-- What is given: a grammar, data, types. -/
structure GvTypes (P : Program) (tg tds tzs tw : TypeId) : Prop where
  g : ∃ f0 f1 f2 : Field, P.underlying tw = some (.struct #[f0, f1, f2]) ∧ (f0.type, f0.offset) = (tg, 0) ∧ (f1.type, f1.offset) = (tds, 5) ∧ (f2.type, f2.offset) = (tzs, 6)
  cg : P.cellsOf tw = 7
structure Gv where
  g : Pl
  l : List Dt
  ty : List ByteArray
structure GvA where
  a : PlA
  l : Option Addr
  cl : Nat
  t : Option Addr
  ct : Nat
abbrev Gv.cs (x : Gv) (a : GvA) : List Value := [.slice a.a.k x.g.kinds.length a.a.ck, .slice a.a.p x.g.precs.length a.a.cp, .slice a.a.r x.g.rules.length a.a.cr, .slice a.a.q x.g.prods.length a.a.cq, .int .i64 x.g.start, .slice a.l x.l.length a.cl, .slice a.t x.ty.length a.ct]
structure Gv.ok (x : Gv) (a : GvA) : Prop where
  g : x.g.ok
  l : DOk x.l
  tl : x.ty.length ≤ 1048576
  ts : ∀ s ∈ x.ty, s.size ≤ 1048576
  q : x.g.prods.length ≤ 1048576
  st : I64 x.g.start
  cap : x.g.kinds.length ≤ a.a.ck ∧ x.g.precs.length ≤ a.a.cp ∧ x.g.rules.length ≤ a.a.cr ∧ x.g.prods.length ≤ a.a.cq
  cl : x.l.length ≤ a.cl
  ct : x.ty.length ≤ a.ct
structure Gv.rd (x : Gv) (w : World) (a : GvA) : Prop where
  g : x.g.rd w a.a
  l : Rd kDt w a.l x.l
  t : Rd kStr w a.t x.ty
theorem Gv.rd.below {x : Gv} {w w' : World} {a : GvA} (h : x.rd w a) (hb : Below w.heap.size w w') : x.rd w' a := ⟨h.g.below hb, h.l.below hb, h.t.below hb⟩
variable {tp tk tpc tq : TypeId}
theorem rd_gv (T : GTypes P ti tz ta ts tr tp) (T2 : GTypes2 P ti tp tk tpc tq tg) (D : DtTypes P tz tk tc tcs td tds) (G : GvTypes P tg tds tk tw) {H : Type} {enc : TypeId × Value → H} {w : World} {base : Nat} {spare : Nat → Bool} {held : Bool} {fuel : Nat} {cs : List Value} {x : DataW H × List MemPlace} (h : DataW.trod enc P w base spare held fuel tw cs = some x) (hN : Rows.uptoBulk x.1 ≤ 1048576) :
    ∃ (g : Gv) (a : GvA), cs = g.cs a ∧ g.rd w a ∧ g.ok a := by
  obtain ⟨f0, f1, f2, hu, h0, h1, h2⟩ := G.g
  simp only [Prod.mk.injEq] at h0 h1 h2
  obtain ⟨xs, n, hb, hl, hlen, hf⟩ := fields_of hu h
  rw [G.cg] at hl
  obtain ⟨c0, c1, c2, c3, c4, c5, c6, rfl⟩ := seven_len hl
  obtain ⟨y0, i0, e0⟩ := hf 0 f0 rfl
  obtain ⟨y1, i1, e1⟩ := hf 1 f1 rfl
  obtain ⟨y2, i2, e2⟩ := hf 2 f2 rfl
  have s2 : P.cellsOf tk = 1 := T2.k.sz
  rw [h0.1, h0.2, T2.cg] at e0
  rw [h1.1, h1.2, D.cds] at e1
  rw [h2.1, h2.2, s2] at e2
  have p0 := part_le i0
  have p1 := part_le i1
  have p2 := part_le i2
  obtain ⟨g, a, hcs, hr, hok, hcap, hst, hpr⟩ := rd_pl T T2 e0 (by omega)
  obtain ⟨l, ⟨A1, k1, g1, l1, r1⟩, hl1, _⟩ := (rdsN_dts D (Nat.le_refl _)).rd e1 (by omega)
  obtain ⟨ty, ⟨A2, k2, g2, l2, r2⟩, b2, d2⟩ := T2.k.rd e2
  have g0 : [c0, c1, c2, c3, c4] = g.cs a := hcs
  have g1' : [c5] = [Value.slice A1 l.length k1] := g1
  have g2' : [c6] = [Value.slice A2 ty.length k2] := g2
  simp only [List.cons.injEq, and_true] at g0 g1' g2'
  obtain ⟨q0, q1, q2, q3, q4⟩ := g0
  subst q0 q1 q2 q3 q4 g1' g2'
  exact ⟨⟨g, l, ty⟩, ⟨a, A1, k1, A2, k2⟩, rfl, ⟨hr, r1, r2⟩, hok, hl1, by dsimp only; omega, fun s hs => by obtain ⟨m, hm, h3⟩ := d2 s hs; omega, by dsimp only; omega, hst, hcap, l1, l2⟩
/-- A tree over a row. -/
structure TeTypes (P : Program) (td tr tt : TypeId) : Prop where
  g : ∃ f0 f1 : Field, P.underlying tt = some (.struct #[f0, f1]) ∧ (f0.type, f0.offset) = (td, 0) ∧ (f1.type, f1.offset) = (tr, 3)
  cg : P.cellsOf tt = 4
theorem rd_te (T : DvTypes P ti td ts) (hr : Rds P tr (kInt .i64).sl (fun xs n => xs.length + 1 ≤ n ∧ ∀ x ∈ xs, ∃ m, m ≤ n ∧ (Lit.int .i64 x).wf = true ∧ 1 ≤ m)) (G : TeTypes P td tr tt) {H : Type} {enc : TypeId × Value → H} {w : World} {base : Nat} {spare : Nat → Bool} {held : Bool} {fuel : Nat} {cs : List Value} {x : DataW H × List MemPlace} (h : DataW.trod enc P w base spare held fuel tt cs = some x) (hN : Rows.uptoBulk x.1 ≤ 1048576) :
    ∃ (d : Dv) (row : List Int) (B A : Option Addr) (k c : Nat), cs = [.int .i64 d.x.prod, .int .i64 d.x.tok, .slice B d.kids.length k, .slice A row.length c] ∧ Rd (kTr fDv) w B d.kids ∧ Rd (kInt .i64) w A row ∧ d.cnt ≤ 1048576 ∧ row.length ≤ 1048576 ∧ (d.kids.length ≤ k ∧ row.length ≤ c) ∧ ∀ x ∈ row, I64 x := by
  obtain ⟨f0, f1, hu, h0, h1⟩ := G.g
  simp only [Prod.mk.injEq] at h0 h1
  obtain ⟨xs, n, hb, hl, hlen, hf⟩ := fields_of hu h
  rw [G.cg] at hl
  obtain ⟨c0, c1, c2, c3, rfl⟩ := four_len hl
  obtain ⟨y0, i0, e0⟩ := hf 0 f0 rfl
  obtain ⟨y1, i1, e1⟩ := hf 1 f1 rfl
  have s1 : P.cellsOf tr = 1 := hr.sz
  rw [h0.1, h0.2, T.ca] at e0
  rw [h1.1, h1.2, s1] at e1
  have p0 := part_le i0
  have p1 := part_le i1
  obtain ⟨d, hd, hcn⟩ := (rdsN_dv T (Rows.uptoBulk y0.1)).rd e0 (Nat.le_refl _)
  obtain ⟨row, ⟨A, c, hc, hle, hrr⟩, b1, d1⟩ := hr.rd e1
  obtain ⟨B, k, hB, hBl, hBr⟩ := Tr.K.open hd
  have g1 : [c3] = [Value.slice A row.length c] := hc
  have g0 : [c0, c1, c2] = [Value.int .i64 d.x.prod, .int .i64 d.x.tok, .slice B d.kids.length k] := hB
  simp only [List.cons.injEq, and_true] at g0 g1
  obtain ⟨q0, q1, q2⟩ := g0
  subst q0 q1 q2 g1
  exact ⟨d, row, B, A, k, c, rfl, hBr, hrr, by omega, by omega, ⟨hBl, hle⟩, fun x hx => by obtain ⟨m, _, hw, _⟩ := d1 x hx; exact i64_wf hw⟩
end
end Go.Proofs.YtgdemplcpcacaaaFx

/-! The value of a tree is the document's. -/
namespace Go.Proofs.Ytgdemplcpcacaaa.BValues
open Go Go.RowKit Go.Proofs.YtgdemplcpcacaaaFx Go.Proofs.Ytgdemplcpcacaaa.AliveB Go.Proofs.Ytgdemplcpcacaaa.PValue Go.Proofs.Ytgdemplcpcacaaa.RValue Go.Proofs.Ytgdemplcpcacaaa.SameN
theorem agg24 : Agg Try.prog 24 4 := agg_of Try.underlying24 (by kernel_rfl)
theorem agg44 : Agg Try.prog 44 5 := agg_of Try.underlying44 (by kernel_rfl)
theorem agg50 : Agg Try.prog 50 3 := agg_of Try.underlying50 (by kernel_rfl)
theorem en10 : Enters Try.prog 10 := enters Try.func10 (by kernel_rfl) rfl
theorem en14 : Enters Try.prog 14 := enters Try.func14 (by kernel_rfl) rfl
theorem en16 : Enters Try.prog 16 := enters Try.func16 (by kernel_rfl) rfl
theorem en17 : Enters Try.prog 17 := enters Try.func17 (by kernel_rfl) rfl
theorem fa47_0 : FieldAt Try.prog 47 0 0 := field_at (sz := 4) Try.underlying47 rfl (by kernel_rfl) rfl
theorem fa53_0 : FieldAt Try.prog 53 0 0 := field_at (sz := 2) Try.underlying53 rfl (by kernel_rfl) rfl
theorem fa53_1 : FieldAt Try.prog 53 1 3 := field_at (sz := 0) Try.underlying53 rfl (by kernel_rfl) rfl
theorem one51 : One Try.prog 51 := one_of Try.underlying51 rfl (by kernel_rfl)
theorem sz24 : ∀ W, (sizeOf 24).run Try.prog W = .ok 4 W := size_of (by kernel_rfl)
theorem zv24 : ∀ W, (zeroValue 24).run Try.prog W = .ok (.agg #[.int .i64 0, .string ⟨#[]⟩, .int .i64 0, .slice none 0 0]) W := zero_of (by kernel_rfl)

theorem valR_few {x : Gv} {a : GvA} {d : Dv} {row : List Int} (hg : x.ok a) : (valR x.g d row).All few := by
  unfold valR
  split
  · rename_i h
    have hd : DrvOk x.g d row := Classical.byContradiction fun h_ => by
      rcases Classical.em (GOk x.g) with hG | hG
      · rw [(valE_none hG h_).1] at h; exact absurd h (by decide)
      · rw [(valE_plain hG).1] at h; exact absurd h (by decide)
    exact valD_few hd.1.acts d hd.dv
  · exact (Tr.All_eq _).2 ⟨show (0 : Nat) ≤ _ by decide, (Tr.Alls_iff _).2 fun t ht => absurd ht (List.not_mem_nil)⟩

set_option maxHeartbeats 3200000 in
set_option maxRecDepth 100000 in
theorem values_calls {x : Gv} {a : GvA} {d : Dv} {row : List Int} {A B : Option Addr} {k c : Nat} {w : World} (hx : x.rd w a) (hk : x.ok a) (hd : Rd (kTr fDv) w B d.kids) (hr : Rd (kInt .i64) w A row) (hcn : d.cnt ≤ 1048576) (hrl : row.length ≤ 1048576) : Calls Try.prog 4 #[.agg #[.slice a.a.k x.g.kinds.length a.a.ck, .slice a.a.p x.g.precs.length a.a.cp, .slice a.a.r x.g.rules.length a.a.cr, .slice a.a.q x.g.prods.length a.a.cq, .int .i64 x.g.start, .slice a.l x.l.length a.cl, .slice a.t x.ty.length a.ct], .agg #[.int .i64 d.x.prod, .int .i64 d.x.tok, .slice B d.kids.length k, .slice A row.length c]] w fun e w' => ∃ v, e = .returned v ∧ v = .bool true ∧ Holds w [] w' := by
  refine calls_of Try.func4 rfl Try.ntmps4 rfl ?_
  have H := Holds.start w
  refine wcR ?_
  refine wl_box (cs := [_, _, _, _, _, _, _]) H rfl rfl rfl ?_
  intro b2 w1 hb2 H2
  refine wl_box (cs := [_, _, _, _]) H2 rfl rfl rfl ?_
  intro b3 w3 hb3 H4
  refine wA ?_
  refine wl_nil ?_
  refine wcR ?_
  refine wV (v_fb (o2 := 0) fa47_0 rfl rfl) ?_
  refine wV (v_loadN (cs := [_, _, _, _, _]) agg44 rfl rfl (H4.atsN (k := 5) (by repeat constructor) rfl)) ?_
  refine wV (v_fb (o2 := 0) fa53_0 rfl rfl) ?_
  refine wV (v_loadN (cs := [_, _, _]) agg50 rfl rfl (H4.atsN (k := 3) (by repeat constructor) rfl)) ?_
  refine wV (v_fb (o2 := 3) fa53_1 rfl rfl) ?_
  refine wV (v_load one51 rfl (H4.at (by repeat constructor) rfl)) ?_
  refine wl_call en16 rfl rfl (pvalue_calls hk.g (hx.g.below H4.old) (hd.below H4.old) (hr.below H4.old) (by omega) (by omega)) ?_
  rintro _ w5 ⟨Ap, cp, rfl, Hc⟩
  have H6 := H4.call Hc
  refine wM ?_
  refine wV (v_extract rfl rfl) ?_
  refine wV (v_extract rfl rfl) ?_
  refine wl_alloc (cs := [.int .i64 0, .string ⟨#[]⟩, .int .i64 0, .slice none 0 0]) H6 rfl zv24 rfl ?_
  intro b5 w7 hb5 H8
  refine wl_store (vs := [_, _, _, _]) H8 (by repeat constructor) sz24 rfl rfl rfl rfl rfl (by (repeat constructor)) ?_
  intro w9 H10 hw9
  refine wA ?_
  refine wl_nil ?_
  refine wcR ?_
  refine wV (v_fb (o2 := 0) fa47_0 rfl rfl) ?_
  refine wV (v_loadN (cs := [_, _, _, _, _]) agg44 rfl rfl (H10.atsN (k := 5) (by repeat constructor) rfl)) ?_
  refine wV (v_fb (o2 := 0) fa53_0 rfl rfl) ?_
  refine wV (v_loadN (cs := [_, _, _]) agg50 rfl rfl (H10.atsN (k := 3) (by repeat constructor) rfl)) ?_
  refine wV (v_fb (o2 := 3) fa53_1 rfl rfl) ?_
  refine wV (v_load one51 rfl (H10.at (by repeat constructor) rfl)) ?_
  refine wl_call en17 rfl rfl (rvalue_calls hk.g (hx.g.below H10.old) (hd.below H10.old) (hr.below H10.old) (by omega) (by omega)) ?_
  rintro _ w11 ⟨Ar, cr, rfl, Hc⟩
  have H12 := H10.callN1 (fun _ h_ => h_.elim) Hc
  refine wM ?_
  refine wV (v_extract rfl rfl) ?_
  refine wV (v_extract rfl rfl) ?_
  refine wl_alloc (cs := [.int .i64 0, .string ⟨#[]⟩, .int .i64 0, .slice none 0 0]) H12 rfl zv24 rfl ?_
  intro b7 w13 hb7 H14
  refine wl_store (vs := [_, _, _, _]) H14 (by repeat constructor) sz24 rfl rfl rfl rfl rfl (by (repeat constructor)) ?_
  intro w15 H16 hw15
  refine wA ?_
  refine wl_nil ?_
  refine wcR ?_
  refine wV (v_loadN agg24 rfl rfl (H16.ats (by repeat constructor))) ?_
  refine wV (v_loadN agg24 rfl rfl (H16.ats (by repeat constructor))) ?_
  refine wl_call en14 rfl rfl (rsame_calls (valR x.g d row) (valR x.g d row) _ Ap Ar cp cr (H16.oRd (f := fNd) (e := 24) (x := ⟨0, ⟨#[]⟩, 0⟩) (by repeat constructor)) (H16.nxRd (by repeat constructor)) (valR_few hk)) ?_
  rintro _ w17 ⟨rfl, Hc⟩
  have H18 := H16.call0 Hc
  refine wM ?_
  refine wl_on' rfl rfl (dec_t rfl) ?_
  refine wM ?_
  refine wl_on' rfl rfl (dec_t rfl) ?_
  refine wM ?_
  refine wl_on' rfl rfl (dec_t rfl) ?_
  refine wV (v_eql rfl rfl) ?_
  refine wV (v_pick_t rfl (dec_t rfl) rfl) ?_
  refine wM ?_
  refine wl_guard rfl rfl rfl (fun g37 => ?_) (fun g37 => ?_)
  rotate_left
  ·have g37p := oF g37
   exact absurd g37 (by simp)
  have g37p := oT g37
  refine wl_call en10 rfl rfl (alive_calls) ?_
  rintro _ w19 ⟨rfl, Hc⟩
  have H20 := H18.call0 Hc
  refine wV (v_pick_t rfl g37 rfl) ?_
  refine wA ?_
  refine wl_nil ?_
  refine wc_ret ?_
  exact ⟨_, res1 rfl rfl, rfl, H20.pm (by repeat (first | exact pm_refl _ | constructor | refine pm_skip ?_))⟩
end Go.Proofs.Ytgdemplcpcacaaa.BValues

/-! Inner rows of rows of the call's own: one at a time; appends whose result is dropped. -/
namespace Go.Proofs.YtgdemplcpcacaaaFx
open Go Go.RowKit
section
variable {P : Program} (w : World)
theorem run_append_keep (base : Nat) (t ty e : TypeId) (i : TypeInfo) (z : Value) (size bytes : Nat) (ht : P.underlying t = some (.slice e)) (hi : P.info? e = some i) (hz : i.zero = some z)
    (hsize : i.size = size) (hby : i.bytes = bytes) (hzs : z.cells.size = size) (hsz : 0 < size)
    (v : Value) (n : Nat) (xs : List Value) (hown : w.ownsRow base e size v n xs)
    (a : Addr) (m c : Nat) (news : List Value) (hl : news.length = m * size) (hnews : ∀ j u, news[j]? = some u → w.cell? (a.add j) = some u) (h1 : ∀ u ∈ news, u.oneCell' = true)
    (h63 : n + m ≤ maxLen) (hbytes : (n + m) * bytes ≤ 140737488355328) (hbase : base ≤ w.heap.size) (hm : 0 < m) :
    ∃ v' w', (Builtin.append_ #[t, t] ty #[v, .slice (some a) m c]).run P w = .ok v' w' ∧ w'.ownsRow base e size v n xs ∧ w.grownBy w' v.ownBlock := by
  subst hsize
  subst hby
  have hsmall : n + m ≤ 9223372036854775807 := by simp only [maxLen] at h63; omega
  rcases hown.2 with ⟨rfl, rfl⟩ | ⟨g, cap, cur, rfl, hbg, hg, hnc, hcm, hcs, htake⟩
  · have hr := run_append_nil (P := P) w t ty e i z ht hi hz a m c news hl hnews (by omega) (by omega) (by have hb := hbytes; simp only [Nat.zero_add] at hb; omega)
    exact ⟨_, _, hr, ⟨hown.1, .inl ⟨rfl, rfl⟩⟩, ⟨rfl, rfl, rfl, by simp, fun k hk _ => heap_alloc_old w.drew _ k hk⟩⟩
  · by_cases hroom : n + m ≤ cap
    · have hfit : n * i.size + news.length ≤ cur.size := by rw [hl, hcs, ← Nat.add_mul]; exact Nat.mul_le_mul_right _ hroom
      have hr := run_append_room (P := P) w t ty e i ht hi g n cap cur hg a m c news hl hnews h1 hroom hfit
      refine ⟨_, _, hr, ⟨hown.1, .inr ⟨g, cap, _, rfl, hbg, setRow_heap w g cur _ e _ hg, hnc, hcm, ?_, ?_⟩⟩, ⟨rfl, rfl, rfl, by simp, fun k _ hk => setRow_other w g k _ (fun e => hk (by simp [Value.ownBlock, e]))⟩⟩
      · simp only [List.size_toArray, List.length_append, List.length_take, List.length_drop, Array.length_toList]
        omega
      · have hl2 : (cur.toList.take (n * i.size)).length = n * i.size := by rw [htake]; exact hown.1
        have h3 : ((cur.toList.take (n * i.size) ++ news ++ cur.toList.drop (n * i.size + news.length)).toArray).toList.take (n * i.size) = cur.toList.take (n * i.size) := by
          rw [List.append_assoc]
          exact List.take_left' hl2
        rw [h3, htake]
    · have holds : ∀ j u, xs[j]? = some u → w.cell? ((⟨g, 0, none⟩ : Addr).add j) = some u := hown.cells (g := g) rfl
      have hr := run_append_grow (P := P) w t ty e i z ht hi hz ⟨g, 0, none⟩ n cap xs hown.1 holds a m c news hl hnews (by omega) (by omega) (growslice_fits (by omega) hbytes)
      have hgr : ∀ row, w.grownBy (w.drew.alloc (.cells (xs.toArray ++ news.toArray ++ Builtin.zeroCells z.cells (grownCap w (n + m) cap e - (n + m))) e)) row := fun row => ⟨rfl, rfl, rfl, by simp, fun k hk _ => heap_alloc_old w.drew _ k hk⟩
      exact ⟨_, _, hr, hown.kept (hgr none) (.inr (by simp [Value.ownBlock])), hgr _⟩
end
theorem getD_irr {α : Type} {xs : List α} {i : Nat} (h : i < xs.length) (a b : α) : xs.getD i a = xs.getD i b := by
  rw [List.getD_eq_getElem?_getD, List.getD_eq_getElem?_getD, List.getElem?_eq_getElem h]
  rfl
theorem del_app {L L' : List Ch} {A : Ch} (D : Del L A L') (M : List Ch) : Del (L ++ M) A (L' ++ M) := by
  induction D with
  | here A L => exact .here A _
  | there C h ih => exact .there C ih
theorem Holds.mergeAll {W0 w : World} {L1 L2 : List Ch} (H : Holds W0 (L1 ++ L2) w) : Holds W0 [] w ∧ ∃ S1 S2 : Nat → Prop, True ∧ True ∧ True ∧ HL L1 w S1 ∧ HL L2 w S2 := by
  obtain ⟨S1, S2, _, _, _, h4, h5⟩ := HL.unapp H.hl
  exact ⟨⟨H.old, trivial⟩, S1, S2, trivial, trivial, trivial, h4, h5⟩
section
variable {α : Type} {f : Fk α} {P : Program} {n : Nat} {Q : Post} {l : Fr} {w W0 : World} {L L' : List Ch} {ops : Array Oper} {rest : List Oper} {d : Nat} {x y : Operand} {ty t e : TypeId} {pos : String} {af : Array Edge} {v : Value} {xs : List α}
/-- append(s, x...) whose result is dropped: s stays as it is. -/
theorem wl_appDrop {z : Value} {bytes m c : Nat} {A : Option Addr} {news : List Value} {sx : Operand} (H : Holds W0 L w) (U : Upd L (Row f e v xs) (Row f e v xs) L) (hn : Nat.ble (d + 1) n = true)
    (ht : P.underlying t = some (.slice e)) (hi : (P.info? e).map (fun i => (i.zero, i.size, i.bytes)) = some (some z, f.sz, bytes)) (hz : z.cells.size = f.sz) (hs0 : 0 < f.sz)
    (hs : ev l sx = some v) (hx : ev l x = some (.slice A m c)) (hA : 0 < m → A = some (adr A)) (hl : news.length = m * f.sz) (hc : ∀ j u, news[j]? = some u → w.cell? ((adr A).add j) = some u) (h1 : ∀ u ∈ news, u.oneCell' = true)
    (hb : (xs.length + m) * bytes ≤ 140737488355328) (hb0 : 0 < bytes) (hm : 0 < m)
    (h : ∀ v' w', Holds W0 L w' → w.heap.size ≤ w'.heap.size → wl P n ops rest Q ((d, v') :: l) w') : wl P n ops (⟨some d, .call { callee := .builtin .append, args := #[sx, x], argTypes := #[t, t] }, ty, pos, af, none⟩ :: rest) Q l w := by
  obtain ⟨i0, hi1, hi2⟩ := Option.map_eq_some_iff.1 hi
  simp only [Prod.mk.injEq] at hi2
  obtain ⟨g1, g2, g3⟩ := hi2
  obtain ⟨S, hS, ⟨hSv, hown⟩, hstep⟩ := H.upd U
  have hlen : xs.length + m ≤ 140737488355328 := Nat.le_trans (Nat.le_mul_of_pos_right _ hb0) hb
  rw [hA hm] at hx
  obtain ⟨v1, w1, hr, hown1, hg⟩ := run_append_keep (P := P) w 0 t ty e i0 z f.sz bytes ht hi1 g1 g2 g3 hz hs0 v xs.length _ hown (adr A) m c news hl hc h1 (by simp only [maxLen]; omega) hb (Nat.zero_le _) hm
  refine wl_v rfl rfl hn (w' := w1) (v := v1) (fun a ha => ?_) (h v1 w1 ?_ hg.size)
  · simp [execOp, resolve, invoke, builtin, ha.eval hs, ha.eval hx, hr]
  · exact hstep w1 S hg.os hg.tape hg.output hg.size (fun k hk hn => hg.block k hk (fun e => hn (hSv k e.symm))) (fun k hk => .inl hk) ⟨hSv, hown1⟩
/-- A store of one cell of an element into a row of the call's own. -/
theorem wl_storeC {A : Option Addr} {m c k : Nat} {i : Int} {x' : α} {u : Value} {z0 : α} (H : Holds W0 L w) (U : Upd L (Row f e (.slice A m c) xs) (Row f e (.slice A m c) (xs.set i.toNat x')) L') (hsz : ∀ W, (sizeOf t).run P W = .ok 1 W) (hx : ev l x = some (.pointer (some (((adr A).add (i.toNat * f.sz)).add k)))) (hy : ev l y = some u) (hc : u.cells = [u].toArray) (h1 : u.oneCell' = true) (h0 : 0 ≤ i) (hi : i < xs.length) (hk : k < f.sz)
    (he : (f.enc (xs.getD i.toNat z0)).set k u = f.enc x') (h : ∀ w', Holds W0 L' w' → wl P n ops rest Q l w') : wl P n ops (⟨none, .store t x y, ty, pos, af, none⟩ :: rest) Q l w := by
  obtain ⟨S, hS, ⟨hSv, hown⟩, hstep⟩ := H.upd U
  have hlt : i.toNat < xs.length := by omega
  have hm : m = xs.length := (rd_of_own hown).1
  subst hm
  rcases hown.2 with ⟨hnil, hz⟩ | ⟨g, cap, cur, hv, _, hh, hnc, hcm, hsz2, hcur⟩
  · omega
  · injection hv with hA _ hcap
    subst hA hcap
    have hfl := flat_len f xs
    have hcl : cur.toList.length = c * f.sz := by simpa using hsz2
    have hle : xs.length * f.sz ≤ cur.toList.length := by rw [hcl]; exact Nat.mul_le_mul_right _ hnc
    have hoff : i.toNat * f.sz + f.sz ≤ xs.length * f.sz := by rw [← Nat.succ_mul]; exact Nat.mul_le_mul_right _ hlt
    obtain ⟨w', hr, g1, g2, g3, g4, g5, g6⟩ := run_storeCells_blk (P := P) (b := g) (t := e) (off := i.toNat * f.sz + k) [u] 0 w cur.toList _ (by simpa using hh) (put_splice cur.toList _ _ (by simp only [List.length_singleton]; omega)) (fun v hv => by rw [List.mem_singleton.1 hv]; exact h1)
    have hset : ∀ (ys : List Value) (j : Nat), j < ys.length → ys.take j ++ [u] ++ ys.drop (j + 1) = ys.set j u := fun ys j hj => by
      rw [List.set_eq_take_append_cons_drop, if_pos hj]; simp
    have hdef : z0 = z0 := rfl
    rw [List.length_singleton, Nat.add_zero, hset _ _ (by omega)] at g1
    refine wl_s (w' := w') rfl rfl (fun a ha => ?_) (h w' (hstep w' S g4 g5 g6 (by omega) (fun q hq hn => g2 q (fun e => hn (e ▸ hSv g (by simp [Value.ownBlock])))) (fun q hq => .inl hq) ⟨hSv, ?_⟩))
    · simp [execOp, ha.eval hx, ha.eval hy, Instr.storeAt, Instr.sureAddr, storeVar, hsz, hc, adr, Addr.add_lit, hr]
    · refine ⟨by rw [flat_len, List.length_set], .inr ⟨g, c, _, by rw [List.length_set], Nat.zero_le _, g1, by rw [List.length_set]; exact hnc, hcm, ?_, ?_⟩⟩
      · simp only [List.size_toArray, List.length_set, hcl]
      · have h2 := flat_set f xs i.toNat k x' u hlt hk (by rw [← he]; congr 2; exact getD_irr hlt _ _)
        rw [List.length_set]
        show (cur.toList.set (i.toNat * f.sz + k) u).take (xs.length * f.sz) = _
        rw [List.take_set, hcur, h2]
end
/-! ### one inner row -/
section
variable {α : Type} {f : Fk α} {w w' W0 : World} {A : Option Addr} {xss : List (List α)} {L : List Ch} {e e2 n c : Nat}
theorem zips_del (f : Fk α) (e : TypeId) : ∀ (vs : List Value) (xss : List (List α)) (i : Nat), vs.length = xss.length → i < xss.length → Del (zips f e vs xss) (Row f e (vs.getD i .nilFunc) (xss.getD i [])) (zips f e (vs.eraseIdx i) (xss.eraseIdx i))
  | [], [], i, _, hi => by simp at hi
  | [], _ :: _, _, h, _ => by simp at h
  | _ :: _, [], _, h, _ => by simp at h
  | v :: vs, x :: xss, 0, _, _ => .here _ _
  | v :: vs, x :: xss, i + 1, h, hi => .there _ (zips_del f e vs xss i (by simpa using h) (by simpa using hi))
theorem zips_ins (f : Fk α) (e : TypeId) (ys : List α) (L : List Ch) (hL : Pm L L) : ∀ (vs : List Value) (xss : List (List α)) (i : Nat), vs.length = xss.length → i < xss.length → Pm (Row f e (vs.getD i .nilFunc) ys :: (zips f e (vs.eraseIdx i) (xss.eraseIdx i) ++ L)) (zips f e vs (xss.set i ys) ++ L)
  | [], [], i, _, hi => by simp at hi
  | [], _ :: _, _, h, _ => by simp at h
  | _ :: _, [], _, h, _ => by simp at h
  | v :: vs, x :: xss, 0, _, _ => .cons (.here _ _) (pmrefl _)
  | v :: vs, x :: xss, i + 1, h, hi => .cons (.there _ (.here _ _)) (zips_ins f e ys L hL vs xss i (by simpa using h) (by simpa using hi))
where pmrefl : ∀ L : List Ch, Pm L L
  | [] => .nil _
  | A :: L => .cons (.here _ _) (pmrefl L)
theorem Pm.refl : ∀ L : List Ch, Pm L L
  | [] => .nil _
  | A :: L => .cons (.here _ _) (Pm.refl L)
theorem zips_len (f : Fk α) (e : TypeId) : ∀ (vs : List Value) (xss : List (List α)) (w : World) (S : Nat → Prop), vs.length = xss.length → HL (zips f e vs xss) w S → ∀ i, i < xss.length → ∃ B c, vs.getD i .nilFunc = .slice B (xss.getD i []).length c
  | [], [], _, _, _, _, i, hi => by simp at hi
  | [], _ :: _, _, _, h, _, _, _ => by simp at h
  | _ :: _, [], _, _, h, _, _, _ => by simp at h
  | v :: vs, x :: xss, w, S, h, hl, i, hi => by
    obtain ⟨S1, S2, _, _, _, h4, h5⟩ := hl
    cases i with
    | zero =>
      obtain ⟨B, c, hv, _⟩ := own_slice h4.2
      exact ⟨B, c, hv⟩
    | succ i => exact zips_len f e vs xss w S2 (by simpa using h) h5 i (by simpa using hi)
/-- One inner row, taken out; behind it, put back. -/
theorem Holds.rrAt {i : Nat} (H : Holds W0 (RR f e e2 (.slice A n c) xss :: L) w) (hi : i < xss.length) :
    ∃ (B : Option Addr) (cB : Nat) (R : List Ch), w.cell? ((adr A).add ((i : Int).toNat * 1)) = some (.slice B (xss.getD i []).length cB) ∧ Holds W0 (Row f e2 (.slice B (xss.getD i []).length cB) (xss.getD i []) :: R) w ∧
      ∀ (w' : World) (ys : List α), Holds W0 (Row f e2 (.slice B (xss.getD i []).length cB) ys :: R) w' → Holds W0 (RR f e e2 (.slice A n c) (xss.set i ys) :: L) w' := by
  obtain ⟨vs, hv, H1⟩ := H.rrOpen
  obtain ⟨B, cB, hB⟩ : ∃ B c, vs.getD i .nilFunc = .slice B (xss.getD i []).length c := by
    obtain ⟨_, S1, S2, _, _, _, ⟨T1, T2, _, _, _, _, g5⟩, _⟩ := H1.mergeAll
    exact zips_len f e2 vs xss w _ hv g5 i hi
  have hraw := H1.raw (.here _ _ _)
  obtain ⟨A', c', hA1, _, hA2, hcell⟩ := own_slice hraw
  injection hA1 with a1 a2 a3
  subst a1 a2 a3
  have hD := (zips_del f e2 vs xss i hv hi)
  refine ⟨B, cB, Raw e 1 (.slice A xss.length c) xss.length vs :: (zips f e2 (vs.eraseIdx i) (xss.eraseIdx i) ++ L), ?_, ?_, fun w' ys H' => ?_⟩
  · rw [Int.toNat_natCast, Nat.mul_one]
    refine hcell i _ ?_
    rw [← hB, List.getD_eq_getElem?_getD, List.getElem?_eq_getElem (by omega)]
    rfl
  · rw [← hB]
    exact H1.turn (.there _ (del_app hD L))
  · rw [← hB] at H'
    refine Holds.rrClose (vs := vs) (by rw [List.length_set]; exact hv) ?_
    rw [List.length_set]
    exact H'.pm (.cons (.there _ (.here _ _)) (zips_ins f e2 ys L (Pm.refl L) vs xss i hv hi))
end
/-- Rows of so many rows, none too long. -/
structure OLs {α : Type} (N : Nat) (xss : List (List α)) : Prop where
  len : xss.length = N
  all : ∀ r ∈ xss, r.length ≤ 1099511627776
theorem OLs.row {α : Type} {N i : Nat} {xss : List (List α)} (h : OLs N xss) (hi : i < N) : (xss.getD i []).length ≤ 1099511627776 := by
  have h1 := h.len
  have hl : i < xss.length := by omega
  rw [List.getD_eq_getElem?_getD, List.getElem?_eq_getElem hl]
  exact h.all _ (List.getElem_mem hl)
theorem OLs.set {α : Type} {N i : Nat} {xss : List (List α)} {ys : List α} (h : OLs N xss) (hi : i < N) (hy : ys.length = (xss.getD i []).length) : OLs N (xss.set i ys) ∧ ((xss.set i ys).getD i []).length = (xss.getD i []).length := by
  have hr := h.row hi
  have h1 := h.len
  refine ⟨⟨by rw [List.length_set]; exact h1, fun r hr' => ?_⟩, ?_⟩
  · rcases List.mem_or_eq_of_mem_set hr' with h2 | rfl
    · exact h.all r h2
    · omega
  · rw [List.getD_eq_getElem?_getD, List.getElem?_set_self (by omega)]
    exact hy
end Go.Proofs.YtgdemplcpcacaaaFx

/-! Rows of trees of the call's own: opened; stores of leaves; appends whose result is dropped. -/
namespace Go.Proofs.YtgdemplcpcacaaaFx
open Go Go.RowKit
abbrev Sl := Option Addr × Nat × Nat
abbrev slV (q : Sl) : Value := .slice q.1 q.2.1 q.2.2
def sl0 : Sl := (none, 0, 0)
/-- An element with where its kids are. -/
def fS {α : Type} (f : Fk α) : Fk (α × Sl) := ⟨f.sz + 1, fun p => f.enc p.1 ++ [slV p.2], fun p => by rw [List.length_append, f.len]; rfl, fun p u hu => by
  rcases List.mem_append.1 hu with h | h
  · exact f.one _ u h
  · rw [List.mem_singleton.1 h]; rfl⟩
section
variable {α : Type} {f : Fk α} {e : TypeId} {W0 w : World} {L L1 : List Ch}
def zpS : List (Tr α) → List Sl → List (α × Sl)
  | t :: r, q :: qs => (t.x, q) :: zpS r qs
  | _, _ => []
def oks (f : Fk α) (e : TypeId) : List (Tr α) → List Sl → List Ch
  | t :: r, q :: qs => ORow f e (slV q) t.kids :: oks f e r qs
  | _, _ => []
theorem zpS_len : ∀ (ts : List (Tr α)) (qs : List Sl), qs.length = ts.length → (zpS ts qs).length = ts.length
  | [], [], _ => rfl
  | [], _ :: _, h => by simp at h
  | _ :: _, [], h => by simp at h
  | t :: r, q :: qs, h => by simp [zpS, zpS_len r qs (by simpa using h)]
theorem zpS_flat : ∀ (ts : List (Tr α)) (qs : List Sl), qs.length = ts.length → (zpS ts qs).flatMap (fS f).enc = kcs f ts (qs.map slV)
  | [], [], _ => rfl
  | [], _ :: _, h => by simp at h
  | _ :: _, [], h => by simp at h
  | t :: r, q :: qs, h => by
    show (f.enc t.x ++ [slV q]) ++ (zpS r qs).flatMap (fS f).enc = f.enc t.x ++ slV q :: kcs f r (qs.map slV)
    rw [zpS_flat r qs (by simpa using h)]
    simp
theorem oks_is : ∀ (ts : List (Tr α)) (qs : List Sl), qs.length = ts.length → oks f e ts qs = Tr.OCs f e ts (qs.map slV)
  | [], [], _ => by rw [OCs_nil]; rfl
  | [], _ :: _, h => by simp at h
  | _ :: _, [], h => by simp at h
  | t :: r, q :: qs, h => by
    rw [List.map_cons, OCs_cons, Tr.OC_eq, ← oks_is r qs (by simpa using h)]
    rfl
theorem zpS_set : ∀ (ts : List (Tr α)) (qs : List Sl) (i : Nat) (t : Tr α) (q : Sl), zpS (ts.set i t) (qs.set i q) = (zpS ts qs).set i (t.x, q)
  | [], qs, i, t, q => by cases qs <;> rfl
  | _ :: _, [], i, t, q => by cases i <;> rfl
  | a :: r, b :: qs, 0, t, q => rfl
  | a :: r, b :: qs, i + 1, t, q => by
    show (a.x, b) :: zpS (r.set i t) (qs.set i q) = (a.x, b) :: (zpS r qs).set i (t.x, q)
    rw [zpS_set]
theorem oks_del (z : Tr α) : ∀ (ts : List (Tr α)) (qs : List Sl) (i : Nat), qs.length = ts.length → i < ts.length → Del (oks f e ts qs) (ORow f e (slV (qs.getD i sl0)) (ts.getD i z).kids) (oks f e (ts.eraseIdx i) (qs.eraseIdx i))
  | [], _, i, _, hi => by simp at hi
  | _ :: _, [], _, h, _ => by simp at h
  | a :: r, b :: qs, 0, _, _ => .here _ _
  | a :: r, b :: qs, i + 1, h, hi => .there _ (oks_del z r qs i (by simpa using h) (by simpa using hi))
theorem oks_ins (L : List Ch) (t : Tr α) (q : Sl) : ∀ (ts : List (Tr α)) (qs : List Sl) (i : Nat), qs.length = ts.length → i < ts.length → Pm (ORow f e (slV q) t.kids :: (oks f e (ts.eraseIdx i) (qs.eraseIdx i) ++ L)) (oks f e (ts.set i t) (qs.set i q) ++ L)
  | [], _, i, _, hi => by simp at hi
  | _ :: _, [], _, h, _ => by simp at h
  | a :: r, b :: qs, 0, _, _ => .cons (.here _ _) (Pm.refl _)
  | a :: r, b :: qs, i + 1, h, hi => .cons (.there _ (.here _ _)) (oks_ins L t q r qs i (by simpa using h) (by simpa using hi))
theorem sls_of : ∀ (ts : List (Tr α)) (vs : List Value) (S : Nat → Prop), vs.length = ts.length → HL (Tr.OCs f e ts vs) w S → ∃ qs : List Sl, vs = qs.map slV
  | [], [], _, _, _ => ⟨[], rfl⟩
  | [], _ :: _, _, h, _ => by simp at h
  | _ :: _, [], _, h, _ => by simp at h
  | t :: r, v :: vs, S, h, hl => by
    rw [OCs_cons] at hl
    obtain ⟨S1, S2, _, _, _, h4, h5⟩ := hl
    rw [Tr.OC_eq] at h4
    obtain ⟨A, c, rfl, _, _⟩ := ORow.known' t.x h4
    obtain ⟨qs, rfl⟩ := sls_of r vs S2 (by simpa using h) h5
    exact ⟨(A, t.kids.length, c) :: qs, rfl⟩
variable {v : Value} {ts : List (Tr α)}
theorem Holds.oOpen (H : Holds W0 (ORow f e v ts :: L) w) : ∃ qs : List Sl, qs.length = ts.length ∧ Holds W0 (Row (fS f) e v (zpS ts qs) :: (oks f e ts qs ++ L)) w := by
  obtain ⟨ho, S1, S2, a1, a2, a3, ⟨vs, hv, hp⟩, a5⟩ := H
  obtain ⟨T1, T2, b1, b2, b3, b4, b5⟩ := hp
  obtain ⟨qs, rfl⟩ := sls_of ts vs T2 hv b5
  have hq : qs.length = ts.length := by simpa using hv
  refine ⟨qs, hq, ?_⟩
  have H2 : Holds W0 ((Raw e (f.sz + 1) v ts.length (kcs f ts (qs.map slV)) :: Tr.OCs f e ts (qs.map slV)) ++ L) w := ⟨ho, HL.app a1 a2 a3 ⟨T1, T2, b1, b2, b3, b4, b5⟩ a5⟩
  rw [← zpS_flat ts qs hq, ← oks_is ts qs hq, ← zpS_len ts qs hq] at H2
  exact H2
theorem Holds.oClose {qs : List Sl} (hq : qs.length = ts.length) (H : Holds W0 (Row (fS f) e v (zpS ts qs) :: (oks f e ts qs ++ L)) w) : Holds W0 (ORow f e v ts :: L) w := by
  have H2 : Holds W0 ((Raw e (f.sz + 1) v (zpS ts qs).length ((zpS ts qs).flatMap (fS f).enc) :: oks f e ts qs) ++ L) w := H
  rw [zpS_flat ts qs hq, oks_is ts qs hq, zpS_len ts qs hq] at H2
  exact H2.closed fun S h => ⟨qs.map slV, by simpa using hq, h⟩
end
section
variable {α : Type} {f : Fk α} {e : TypeId} {W0 w : World} {L L1 : List Ch} {ts : List (Tr α)} {P : Program} {n : Nat} {Q : Post} {l : Fr} {ops : Array Oper} {rest : List Oper} {d : Nat} {x y : Operand} {ty t : TypeId} {pos : String} {af : Array Edge} {v : Value} {A : Option Addr} {m c : Nat} {i : Int} {x' : α}
/-- A store of a leaf into a row of trees. -/
theorem wl_storeO (z : Tr α) (H : Holds W0 L w) (D : Del L (ORow f e (.slice A m c) ts) L1) (hsz : ∀ W, (sizeOf t).run P W = .ok (f.sz + 1) W) (hx : ev l x = some (.pointer (some ((adr A).add (i.toNat * (f.sz + 1)))))) (hy : ev l y = some v) (hc : v.cells = (f.enc x' ++ [Value.slice none 0 0]).toArray) (h0 : 0 ≤ i) (h1 : i < ts.length)
    (h : ∀ w', Holds W0 (ORow f e (.slice A m c) (ts.set i.toNat (.mk x' [])) :: L1) w' → wl P n ops rest Q l w') : wl P n ops (⟨none, .store t x y, ty, pos, af, none⟩ :: rest) Q l w := by
  obtain ⟨qs, hq, H1⟩ := (H.turn D).oOpen
  have hi : i.toNat < ts.length := by omega
  refine wl_storeR (f := fS f) (i := i) (x' := (x', sl0)) H1 (.here _ _ _) hsz hx hy hc h0 (by rw [zpS_len _ _ hq]; omega) fun w' H' => h w' ?_
  have H2 := H'.turn (.there _ (del_app (oks_del z ts qs i.toNat hq hi) L1))
  have H3 := (H2.tail.oNil f e).pm (.cons (.there _ (.here _ _)) (oks_ins (f := f) (e := e) L1 (.mk x' []) sl0 ts qs i.toNat hq hi))
  refine Holds.oClose (qs := qs.set i.toNat sl0) (by rw [List.length_set, List.length_set]; exact hq) ?_
  rw [zpS_set]
  exact H3
/-- Kids of a tree of the row, taken out; behind it, put back. -/
theorem Holds.oAt (z : Tr α) {j : Nat} (H : Holds W0 (ORow f e (.slice A m c) ts :: L) w) (hj : j < ts.length) : ∃ (q : Sl) (R : List Ch), w.cell? (((adr A).add ((j : Int).toNat * (f.sz + 1))).add f.sz) = some (slV q) ∧ Holds W0 (ORow f e (slV q) (ts.getD j z).kids :: R) w ∧
    ∀ (w' : World) (ks : List (Tr α)), Holds W0 (ORow f e (slV q) ks :: R) w' → Holds W0 (ORow f e (.slice A m c) (ts.set j (.mk (ts.getD j z).x ks)) :: L) w' := by
  obtain ⟨qs, hq, H1⟩ := H.oOpen
  have hraw := H1.raw (.here _ _ _)
  obtain ⟨A', c', hA1, _, hA2, hcell⟩ := own_slice hraw
  injection hA1 with a1 a2 a3
  subst a1 a2 a3
  refine ⟨qs.getD j sl0, Row (fS f) e (.slice A (zpS ts qs).length c) (zpS ts qs) :: (oks f e (ts.eraseIdx j) (qs.eraseIdx j) ++ L), ?_, H1.turn (.there _ (del_app (oks_del z ts qs j hq hj) L)), fun w' ks H' => ?_⟩
  · have hz : ∀ (ts : List (Tr α)) (qs : List Sl) (j : Nat), qs.length = ts.length → j < ts.length → (zpS ts qs)[j]? = some ((ts.getD j z).x, qs.getD j sl0) := by
      intro ts
      induction ts with
      | nil => intro qs j _ h; simp at h
      | cons a r ih =>
        intro qs j h1 h2
        cases qs with
        | nil => simp at h1
        | cons b qs =>
          cases j with
          | zero => rfl
          | succ j => exact ih qs j (by simpa using h1) (by simpa using h2)
    have h2 := flat_get (fS f) (zpS ts qs) j _ (hz ts qs j hq hj) f.sz (slV (qs.getD j sl0)) (by
      show (f.enc (ts.getD j z).x ++ [slV (qs.getD j sl0)])[f.sz]? = _
      rw [List.getElem?_append_right (by rw [f.len]; exact Nat.le_refl _), f.len, Nat.sub_self]
      rfl)
    rw [Int.toNat_natCast, add_add]
    exact hcell _ _ h2
  · refine Holds.oClose (qs := qs.set j (qs.getD j sl0)) (by rw [List.length_set, List.length_set]; exact hq) ?_
    have hs : zpS (ts.set j (.mk (ts.getD j z).x ks)) (qs.set j (qs.getD j sl0)) = zpS ts qs := by
      have hz2 : ∀ (ts : List (Tr α)) (qs : List Sl) (j : Nat), (zpS ts qs).set j ((ts.getD j z).x, qs.getD j sl0) = zpS ts qs := by
        intro ts
        induction ts with
        | nil => intro qs j; cases qs <;> rfl
        | cons a r ih =>
          intro qs j
          cases qs with
          | nil => rfl
          | cons b qs =>
            cases j with
            | zero => rfl
            | succ j =>
              show (a.x, b) :: (zpS r qs).set j _ = _
              exact congrArg _ (ih qs j)
      rw [zpS_set]
      exact hz2 ts qs j
    rw [hs]
    exact H'.pm (.cons (.there _ (.here _ _)) (oks_ins (f := f) (e := e) L (.mk (ts.getD j z).x ks) (qs.getD j sl0) ts qs j hq hj))
/-- A store of a leaf among the kids of a tree of a row. -/
theorem wl_storeOO (z : Tr α) {j : Nat} {B : Option Addr} {mB cB : Nat} (H : Holds W0 L w) (D : Del L (ORow f e (.slice A m c) ts) L1) (hj : j < ts.length) (hB : w.cell? (((adr A).add ((j : Int).toNat * (f.sz + 1))).add f.sz) = some (.slice B mB cB)) (hsz : ∀ W, (sizeOf t).run P W = .ok (f.sz + 1) W) (hx : ev l x = some (.pointer (some ((adr B).add (i.toNat * (f.sz + 1)))))) (hy : ev l y = some v) (hc : v.cells = (f.enc x' ++ [Value.slice none 0 0]).toArray) (h0 : 0 ≤ i) (h1 : i < (ts.getD j z).kids.length)
    (h : ∀ w', Holds W0 (ORow f e (.slice A m c) (ts.set j (.mk (ts.getD j z).x ((ts.getD j z).kids.set i.toNat (.mk x' [])))) :: L1) w' → wl P n ops rest Q l w') : wl P n ops (⟨none, .store t x y, ty, pos, af, none⟩ :: rest) Q l w := by
  obtain ⟨q, R, g1, g2, g3⟩ := (H.turn D).oAt z hj
  obtain ⟨q1, q2, q3⟩ := q
  rw [hB] at g1
  injection g1 with g1
  injection g1 with e1 e2 e3
  subst e1 e2 e3
  exact wl_storeO z g2 (.here _ _) hsz hx hy hc h0 h1 fun w' H' => h w' (g3 w' _ H')
/-- append(row of trees, x...) whose result is dropped. -/
theorem wl_appDropO {zv : Value} {bytes mm cc : Nat} {B : Option Addr} {news : List Value} {sx : Operand} {u : Value} (H : Holds W0 L w) (D : Del L (ORow f e u ts) L1) (hn : Nat.ble (d + 1) n = true)
    (ht : P.underlying t = some (.slice e)) (hi : (P.info? e).map (fun i => (i.zero, i.size, i.bytes)) = some (some zv, f.sz + 1, bytes)) (hz : zv.cells.size = f.sz + 1)
    (hs : ev l sx = some u) (hx : ev l x = some (.slice B mm cc)) (hA : 0 < mm → B = some (adr B)) (hl : news.length = mm * (f.sz + 1)) (hc : ∀ j u, news[j]? = some u → w.cell? ((adr B).add j) = some u) (h1 : ∀ u ∈ news, u.oneCell' = true)
    (hb : (ts.length + mm) * bytes ≤ 140737488355328) (hb0 : 0 < bytes) (hm : 0 < mm)
    (h : ∀ v' w', Holds W0 (ORow f e u ts :: L1) w' → w.heap.size ≤ w'.heap.size → wl P n ops rest Q ((d, v') :: l) w') : wl P n ops (⟨some d, .call { callee := .builtin .append, args := #[sx, x], argTypes := #[t, t] }, ty, pos, af, none⟩ :: rest) Q l w := by
  obtain ⟨qs, hq, H1⟩ := (H.turn D).oOpen
  refine wl_appDrop (f := fS f) H1 (.here _ _ _) hn ht hi hz (Nat.succ_pos _) hs hx hA hl hc h1 (by rw [zpS_len _ _ hq]; exact hb) hb0 hm fun v' w' H' hw => h v' w' (Holds.oClose hq H') hw
theorem wl_appDropOO (z : Tr α) {j : Nat} {zv : Value} {bytes mm cc mC cC : Nat} {B C : Option Addr} {news : List Value} {sx : Operand} (H : Holds W0 L w) (D : Del L (ORow f e (.slice A m c) ts) L1) (hj : j < ts.length) (hC : w.cell? (((adr A).add ((j : Int).toNat * (f.sz + 1))).add f.sz) = some (.slice C mC cC)) (hn : Nat.ble (d + 1) n = true)
    (ht : P.underlying t = some (.slice e)) (hi : (P.info? e).map (fun i => (i.zero, i.size, i.bytes)) = some (some zv, f.sz + 1, bytes)) (hz : zv.cells.size = f.sz + 1)
    (hs : ev l sx = some (.slice C mC cC)) (hx : ev l x = some (.slice B mm cc)) (hA : 0 < mm → B = some (adr B)) (hl : news.length = mm * (f.sz + 1)) (hc : ∀ j u, news[j]? = some u → w.cell? ((adr B).add j) = some u) (h1 : ∀ u ∈ news, u.oneCell' = true)
    (hb : ((ts.getD j z).kids.length + mm) * bytes ≤ 140737488355328) (hb0 : 0 < bytes) (hm : 0 < mm)
    (h : ∀ v' w', Holds W0 (ORow f e (.slice A m c) (ts.set j (.mk (ts.getD j z).x (ts.getD j z).kids)) :: L1) w' → w.heap.size ≤ w'.heap.size → wl P n ops rest Q ((d, v') :: l) w') : wl P n ops (⟨some d, .call { callee := .builtin .append, args := #[sx, x], argTypes := #[t, t] }, ty, pos, af, none⟩ :: rest) Q l w := by
  obtain ⟨q, R, g1, g2, g3⟩ := (H.turn D).oAt z hj
  obtain ⟨q1, q2, q3⟩ := q
  rw [hC] at g1
  injection g1 with g1
  injection g1 with e1 e2 e3
  subst e1 e2 e3
  exact wl_appDropO g2 (.here _ _) hn ht hi hz hs hx hA hl hc h1 hb hb0 hm fun v' w' H' hw => h v' w' (g3 w' _ H') hw
end
end Go.Proofs.YtgdemplcpcacaaaFx

/-! Data, as the document finds them. -/
namespace Go.Proofs.YtgdemplcpcacaaaFx
open Go Go.RowKit
theorem upto0 {p : Nat → Prop} : ∀ j, j < 0 → p j := fun j h => absurd h (Nat.not_lt_zero j)
theorem uptoS {p : Nat → Prop} {n : Nat} (h : ∀ j, j < n → p j) (hn : p n) : ∀ j, j < n + 1 → p j := fun j hj => by
  rcases Nat.lt_succ_iff_lt_or_eq.1 hj with h1 | h1
  · exact h j h1
  · rw [h1]; exact hn
section
variable {P : Program} {n : Nat} {l : Fr} {w : World} {v : Value}
theorem resC13 {fn : Func} {a t b : Tmp} {ty : TypeId} {p : Addr} {v1 v3 : Value} (hr : fn.results = #[.tmp a, .cell t ty, .tmp b]) (h1 : lk l a = some v1) (h : lk l t = some (.pointer (some p))) (hv : (loadVar ty p).run P w = .ok v w) (h2 : lk l b = some v3) : Res P n l w fn (.tuple #[v1, v, v3]) := fun A ha => by
  have g1 := ha.at_ _ _ h1
  have g2 := ha.at_ _ _ h
  have g3 := ha.at_ _ _ h2
  simp [results, hr, Array.getD_eq_getD_getElem?, g1, g2, g3, asAddr, hv]
end
theorem Rd.takes {α : Type} {d : Kn α} {w : World} {A : Option Addr} {xs : List α} (h : Rd d w A xs) (i : Nat) : Rd d w A (xs.take i) := ⟨fun h1 => h.ad (by rw [List.length_take] at h1; omega), fun j x hx => by
  rw [List.getElem?_take] at hx
  split at hx
  · exact h.el j x hx
  · cases hx⟩
section
variable {l : List Dt} {s : ByteArray} {i j : Nat}
theorem mem_nms : s ∈ nms l ↔ ∃ j, j < l.length ∧ (l.getD j dt0).name = s := by
  unfold nms
  rw [List.mem_map]
  constructor
  · rintro ⟨d, hd, rfl⟩
    obtain ⟨j, hj, rfl⟩ := List.mem_iff_getElem.1 hd
    exact ⟨j, hj, by rw [List.getD_eq_getElem?_getD, List.getElem?_eq_getElem hj]; rfl⟩
  · rintro ⟨j, hj, rfl⟩
    exact ⟨_, getD_mem hj, rfl⟩
theorem fnd_cat (A B : List (ByteArray × Ct)) (s : ByteArray) : fnd (A ++ B) s = (fnd A s).or (fnd B s) := List.find?_append
theorem fnd_here (hi : i < l.length) (hj : j < (l.getD i dt0).ctors.length) (h0 : fnd (upC l i j) s = none) (hs : ((l.getD i dt0).ctors.getD j ct0).name = s) : fnd (flat l) s = some ((l.getD i dt0).name, (l.getD i dt0).ctors.getD j ct0) := by
  obtain ⟨R, hR⟩ := upC_prefix (l := l) (i := i) (j := j + 1) hi
  rw [hR, upC_succ hj, fnd_cat, fnd_app, h0, if_pos hs]
  rfl
theorem fnd_next (hj : j < (l.getD i dt0).ctors.length) (h0 : fnd (upC l i j) s = none) (hs : ((l.getD i dt0).ctors.getD j ct0).name ≠ s) : fnd (upC l i (j + 1)) s = none := by
  rw [upC_succ hj, fnd_app, h0, if_neg hs]
  rfl
theorem DOk.takes (h : DOk l) (i : Nat) : DOk (l.take i) := ⟨by have := h.len; rw [List.length_take]; omega, fun d hd => h.n d (List.mem_of_mem_take hd), by
    have h1 := h.f
    have h2 : flat l = flat (l.take i) ++ flat (l.drop i) := by rw [← flat_app, List.take_append_drop]
    rw [h2, List.length_append] at h1
    omega, fun p hp => h.cn p (by
    have h2 : flat l = flat (l.take i) ++ flat (l.drop i) := by rw [← flat_app, List.take_append_drop]
    rw [h2]
    exact List.mem_append_left _ hp)⟩
/-- The names of constructors so far. -/
def cnm (P : List (ByteArray × Ct)) : List ByteArray := P.map fun p => p.2.name
theorem cnm_len (P : List (ByteArray × Ct)) : (cnm P).length = P.length := List.length_map ..
theorem cnm_succ (hj : j < (l.getD i dt0).ctors.length) : cnm (upC l i (j + 1)) = cnm (upC l i j) ++ [((l.getD i dt0).ctors.getD j ct0).name] := by rw [upC_succ hj]; unfold cnm; rw [List.map_append]; rfl
theorem cnm_get {P : List (ByteArray × Ct)} (h : j < P.length) : (cnm P).getD j s0 = (P.getD j (s0, ct0)).2.name := by
  unfold cnm
  rw [List.getD_eq_getElem?_getD, List.getD_eq_getElem?_getD, List.getElem?_map, List.getElem?_eq_getElem h]
  rfl
theorem fnd_take {P : List (ByteArray × Ct)} (hi : i ≤ P.length) : fnd (P.take i) s = none ↔ ∀ j, j < i → (cnm P).getD j s0 ≠ s := by
  rw [fnd_none]
  constructor
  · intro h j hj
    rw [cnm_get (by omega)]
    refine h _ ?_
    rw [List.getD_eq_getElem?_getD, List.getElem?_eq_getElem (by omega), Option.getD_some]
    rw [List.mem_take_iff_getElem]
    exact ⟨j, by omega, rfl⟩
  · intro h p hp
    obtain ⟨j, hj, rfl⟩ := List.mem_take_iff_getElem.1 hp
    have := h j (by omega)
    rw [cnm_get (by omega), List.getD_eq_getElem?_getD, List.getElem?_eq_getElem (by omega)] at this
    exact this
end
end Go.Proofs.YtgdemplcpcacaaaFx
