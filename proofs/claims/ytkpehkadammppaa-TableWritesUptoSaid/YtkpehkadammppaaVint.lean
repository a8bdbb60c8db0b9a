/- Numbers, seven bits a byte: plain; bit operations and divisions. -/
import Derived.Test.YtkpehkadammppaaBits
import Derived.Test.YtkpehkadammppaaCut
import Derived.Laws.BitsLemmas
set_option linter.unusedVariables false
namespace Go.Proofs.YtkpehkadammppaaFx
open Go Go.RowKit
section
variable {P : Program} {n : Nat} {l : Fr} {w : World} {x y : Operand} {ty t t2 : TypeId} {pos : String} {af : Array Edge} {gd : Option (Nat × Bool)} {dst : Option Tmp} {i j : Int} {k : IntKind}
theorem v_and (hx : ev l x = some (.int k i)) (hy : ev l y = some (.int k j)) : Vs P n l ⟨dst, .binOp .and t x y t2, ty, pos, af, gd⟩ w (.int k (bits .and k i j)) := fun a ha => by simp [execOp, ha.eval hx, ha.eval hy, eqGuard_at_int, binOp_and, intBits_and]
theorem v_or (hx : ev l x = some (.int k i)) (hy : ev l y = some (.int k j)) : Vs P n l ⟨dst, .binOp .or t x y t2, ty, pos, af, gd⟩ w (.int k (bits .or k i j)) := fun a ha => by simp [execOp, ha.eval hx, ha.eval hy, eqGuard_at_int, binOp_or, intBits_or]
theorem v_rem (hx : ev l x = some (.int k i)) (hy : ev l y = some (.int k j)) (h0 : j ≠ 0) : Vs P n l ⟨dst, .binOp .rem t x y t2, ty, pos, af, gd⟩ w (.int k (Int.tmod i j)) := fun a ha => by
  simp [execOp, ha.eval hx, ha.eval hy, eqGuard_at_int, binOp_rem, Op.intDiv, h0]
theorem v_quo (hx : ev l x = some (.int k i)) (hy : ev l y = some (.int k j)) (h0 : j ≠ 0) : Vs P n l ⟨dst, .binOp .quo t x y t2, ty, pos, af, gd⟩ w (.int k (k.wrap (Int.tdiv i j))) := fun a ha => by
  simp [execOp, ha.eval hx, ha.eval hy, eqGuard_at_int, binOp_quo, Op.intDiv, h0]
end
theorem or128 {a : Int} (h : 0 ≤ a ∧ a < 256) : bits .or .u8 a 128 = a % 128 + 128 := by
  obtain ⟨n, rfl⟩ := Int.eq_ofNat_of_zero_le h.1
  have hn : n < 256 := by omega
  have h1 := (bits_nat .u8 8 (by decide) wraps_u8 n 128 (by simpa using hn) (by decide)).2
  have h2 : ∀ n : Fin 256, (n.1 ||| 128) = n.1 % 128 + 128 := by decide +kernel
  have h3 := h2 ⟨n, hn⟩
  dsimp only at h3
  rw [show (128 : Int) = ((128 : Nat) : Int) from rfl, h1, h3]
  omega
theorem and127 {a : Int} (h : 0 ≤ a ∧ a < 256) : bits .and .u8 a 127 = a % 128 := bits_mask .u8 8 (by decide) wraps_u8 7 (by decide) a h.1 (by have := h.2; omega)
theorem wraps_i64 (n : Int) (h₀ : 0 ≤ n) (h₁ : n < 2 ^ 62) : IntKind.i64.wrap n = n := by rw [IntKind.wrap_i64]; omega
theorem or_low {a c s : Nat} (ha : a < 2 ^ s) (hc : c * 2 ^ s < 2 ^ 62) (ha2 : a < 2 ^ 62) : bits .or .i64 (a : Int) ((c * 2 ^ s : Nat) : Int) = ((a + c * 2 ^ s : Nat) : Int) := by
  rw [(bits_nat .i64 62 (by decide) wraps_i64 a (c * 2 ^ s) ha2 hc).2, Nat.or_comm, Nat.mul_comm c, ← Nat.two_pow_add_eq_or_of_lt ha, Nat.add_comm]
/-- A number's bytes. -/
def vint (n : Nat) : List Int := if n < 128 then [(n : Int)] else ((n % 128 + 128 : Nat) : Int) :: vint (n / 128)
termination_by n
theorem vint_lt {n : Nat} (h : n < 128) : vint n = [(n : Int)] := by rw [vint, if_pos h]
theorem vint_ge {n : Nat} (h : ¬ n < 128) : vint n = ((n % 128 + 128 : Nat) : Int) :: vint (n / 128) := by rw [vint, if_neg h]
theorem vint_len : ∀ (k n : Nat), n < 128 ^ k → 1 ≤ k → (vint n).length ≤ k
  | 0, _, _, h => by omega
  | k + 1, n, h, _ => by
    rcases Nat.lt_or_ge n 128 with h1 | h1
    · rw [vint_lt h1]; simp
    · rw [vint_ge (by omega), List.length_cons]
      rcases Nat.eq_zero_or_pos k with rfl | hk
      · simp at h; omega
      · have := vint_len k (n / 128) (by rw [Nat.pow_succ] at h; exact Nat.div_lt_of_lt_mul (by rw [Nat.mul_comm]; exact h)) hk
        omega
theorem vint_pos (n : Nat) : 1 ≤ (vint n).length := by
  rcases Nat.lt_or_ge n 128 with h1 | h1
  · rw [vint_lt h1]; simp
  · rw [vint_ge (by omega), List.length_cons]; omega
theorem vint_bytes : ∀ (n : Nat), ∀ x ∈ vint n, 0 ≤ x ∧ x < 256 := by
  intro n
  induction n using Nat.strongRecOn with
  | _ n ih =>
    intro x hx
    rcases Nat.lt_or_ge n 128 with h1 | h1
    · rw [vint_lt h1, List.mem_singleton] at hx; omega
    · rw [vint_ge (by omega)] at hx
      rcases List.mem_cons.1 hx with rfl | hx
      · omega
      · exact ih (n / 128) (by omega) x hx
/-- A number read: at most k bytes are left, acc is what was read, sh its bits. -/
def numG : Nat → Nat → Nat → List Int → Option (Nat × List Int)
  | 0, _, _, _ => none
  | _ + 1, _, _, [] => none
  | k + 1, acc, sh, c :: r =>
    if c < 128 then if (c = 0 ∧ 0 < sh) ∨ 2147483647 < acc + (c.toNat % 128) * 2 ^ sh then none else some (acc + (c.toNat % 128) * 2 ^ sh, r)
    else numG k (acc + (c.toNat % 128) * 2 ^ sh) (sh + 7) r
def num (bs : List Int) : Option (Nat × List Int) := numG 5 0 0 bs
def Bytes (bs : List Int) : Prop := ∀ x ∈ bs, 0 ≤ x ∧ x < 256
theorem numG_big : ∀ (k acc sh : Nat) (bs : List Int), 2147483647 < acc → numG k acc sh bs = none
  | 0, _, _, _, _ => rfl
  | _ + 1, _, _, [], _ => rfl
  | k + 1, acc, sh, c :: r, h => by
    unfold numG
    split
    · rw [if_pos (.inr (by omega))]
    · exact numG_big k _ _ r (by omega)
theorem numG_vint : ∀ (k acc sh m : Nat) (r : List Int), m < 128 ^ k → 1 ≤ k → acc + m * 2 ^ sh ≤ 2147483647 → (m ≠ 0 ∨ sh = 0) → numG k acc sh (vint m ++ r) = some (acc + m * 2 ^ sh, r)
  | 0, acc, sh, m, r, h, h0, h2, h3 => by omega
  | k + 1, acc, sh, m, r, h, h0, h2, h3 => by
    have hdiv : m / 128 < 128 ^ k := by rw [Nat.pow_succ] at h; exact Nat.div_lt_of_lt_mul (by rw [Nat.mul_comm]; exact h)
    rcases Nat.lt_or_ge m 128 with h1 | h1
    · rw [vint_lt h1]
      show numG (k + 1) acc sh ((m : Int) :: r) = _
      unfold numG
      rw [if_pos (by omega), Int.toNat_natCast, Nat.mod_eq_of_lt h1, if_neg (by omega)]
    · rw [vint_ge (by omega)]
      show numG (k + 1) acc sh (((m % 128 + 128 : Nat) : Int) :: (vint (m / 128) ++ r)) = _
      have e1 : (m % 128 + 128) % 128 = m % 128 := by omega
      have e2 : acc + m % 128 * 2 ^ sh + m / 128 * 2 ^ (sh + 7) = acc + m * 2 ^ sh := by
        have h5 : m / 128 * 2 ^ (sh + 7) = (m / 128 * 128) * 2 ^ sh := by rw [Nat.pow_add, Nat.mul_comm (2 ^ sh), ← Nat.mul_assoc]
        have h6 : m % 128 + m / 128 * 128 = m := Nat.mod_add_div' m 128
        rw [h5, Nat.add_assoc, ← Nat.add_mul, h6]
      unfold numG
      rw [if_neg (by omega), Int.toNat_natCast, e1]
      have := numG_vint k (acc + m % 128 * 2 ^ sh) (sh + 7) (m / 128) r hdiv (by
        rcases Nat.eq_zero_or_pos k with rfl | hk
        · simp at h; omega
        · exact hk) (by rw [e2]; exact h2) (.inl (by omega))
      rw [this, e2]
theorem numG_is : ∀ (k acc sh n : Nat) (bs r : List Int), Bytes bs → numG k acc sh bs = some (n, r) → ∃ m, bs = vint m ++ r ∧ n = acc + m * 2 ^ sh ∧ n ≤ 2147483647 ∧ (m ≠ 0 ∨ sh = 0)
  | 0, _, _, _, _, _, _, h => by simp [numG] at h
  | _ + 1, _, _, _, [], _, _, h => by simp [numG] at h
  | k + 1, acc, sh, n, c :: r0, r, hB, h => by
    have hc := hB c (List.mem_cons_self ..)
    unfold numG at h
    split at h
    · rename_i h1
      split at h
      · cases h
      · rename_i h2
        injection h with h
        injection h with h3 h4
        subst h4
        have e : c.toNat % 128 = c.toNat := by omega
        rw [e] at h2 h3
        refine ⟨c.toNat, ?_, h3.symm, by omega, by omega⟩
        rw [vint_lt (by omega)]
        show c :: r0 = (c.toNat : Int) :: r0
        rw [Int.toNat_of_nonneg hc.1]
    · rename_i h1
      obtain ⟨m, rfl, hn, hle, hm⟩ := numG_is k _ _ n r0 r (fun x hx => hB x (List.mem_cons_of_mem _ hx)) h
      have hm0 : m ≠ 0 := hm.resolve_right (by omega)
      have e0 : c.toNat % 128 = c.toNat - 128 := by omega
      refine ⟨(c.toNat - 128) + 128 * m, ?_, ?_, hle, .inl (by omega)⟩
      · rw [vint_ge (n := (c.toNat - 128) + 128 * m) (by omega)]
        have e1 : ((c.toNat - 128) + 128 * m) % 128 + 128 = c.toNat := by omega
        have e2 : ((c.toNat - 128) + 128 * m) / 128 = m := by omega
        rw [e1, e2, Int.toNat_of_nonneg hc.1]
        rfl
      · rw [hn, e0, Nat.add_assoc]
        congr 1
        rw [Nat.add_mul, Nat.pow_add]
        congr 1
        rw [Nat.mul_comm 128 m, Nat.mul_assoc, Nat.mul_comm 128]
theorem num_vint {n : Nat} (r : List Int) (h : n ≤ 2147483647) : num (vint n ++ r) = some (n, r) := by
  have := numG_vint 5 0 0 n r (by simp only [Nat.reducePow]; omega) (by decide) (by simpa using h) (.inr rfl)
  simpa [num] using this
theorem num_is {n : Nat} {bs r : List Int} (hB : Bytes bs) (h : num bs = some (n, r)) : bs = vint n ++ r ∧ n ≤ 2147483647 := by
  obtain ⟨m, h1, h2, h3, _⟩ := numG_is 5 0 0 n bs r hB h
  rw [Nat.pow_zero, Nat.mul_one, Nat.zero_add] at h2
  subst h2
  exact ⟨h1, h3⟩
end Go.Proofs.YtkpehkadammppaaFx
