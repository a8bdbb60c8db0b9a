/- Packed tables as plain data; what they say of a state and a kind. -/
import Derived.Test.YtkpehkadammppaaDflt
set_option linter.unusedVariables false
namespace Go.Proofs.YtkpehkadammppaaFx
open Go Go.RowKit
theorem wrap_cases {x : Int} (h1 : -9223372036854775808 ≤ x) (h2 : x < 18446744073709551616) : (x ≤ 9223372036854775807 ∧ IntKind.i64.wrap x = x) ∨ (9223372036854775807 < x ∧ IntKind.i64.wrap x = x - 18446744073709551616) := by
  have e1 : (2 ^ IntKind.i64.bits : Int) = 18446744073709551616 := rfl
  have e2 : (2 ^ (IntKind.i64.bits - 1) : Int) = 9223372036854775808 := rfl
  have e3 : IntKind.i64.signed = true := rfl
  unfold IntKind.wrap
  simp only [e1, e2, e3, Bool.true_and, decide_eq_true_eq]
  split <;> omega
/-- A packed table. -/
structure Pk where
  kinds : Int
  rules : Int
  dflt : List Mv
  base : List Int
  check : List Int
  cell : List Mv
  gbase : List Int
  gcheck : List Int
  gcell : List Int
  deriving DecidableEq
/-- Where its rows lie. -/
structure PkA where
  d : Option Addr
  b : Option Addr
  c : Option Addr
  e : Option Addr
  gb : Option Addr
  gc : Option Addr
  ge : Option Addr
  kd : Nat
  kb : Nat
  kc : Nat
  ke : Nat
  kgb : Nat
  kgc : Nat
  kge : Nat
abbrev Pk.cells (p : Pk) (a : PkA) : List Value := [.int .i64 p.kinds, .int .i64 p.rules, .slice a.d p.dflt.length a.kd, .slice a.b p.base.length a.kb, .slice a.c p.check.length a.kc, .slice a.e p.cell.length a.ke, .slice a.gb p.gbase.length a.kgb, .slice a.gc p.gcheck.length a.kgc, .slice a.ge p.gcell.length a.kge]
abbrev Pk.val (p : Pk) (a : PkA) : Value := .agg #[.int .i64 p.kinds, .int .i64 p.rules, .slice a.d p.dflt.length a.kd, .slice a.b p.base.length a.kb, .slice a.c p.check.length a.kc, .slice a.e p.cell.length a.ke, .slice a.gb p.gbase.length a.kgb, .slice a.gc p.gcheck.length a.kgc, .slice a.ge p.gcell.length a.kge]
structure Pk.rd (p : Pk) (w : World) (a : PkA) : Prop where
  d : Rd fMv.kn w a.d p.dflt
  b : Rd (kInt .i64) w a.b p.base
  c : Rd (kInt .i64) w a.c p.check
  e : Rd fMv.kn w a.e p.cell
  gb : Rd (kInt .i64) w a.gb p.gbase
  gc : Rd (kInt .i64) w a.gc p.gcheck
  ge : Rd (kInt .i64) w a.ge p.gcell
theorem Pk.rd.below {p : Pk} {w w' : World} {a : PkA} (h : p.rd w a) (hb : Below w.heap.size w w') : p.rd w' a := ⟨h.d.below hb, h.b.below hb, h.c.below hb, h.e.below hb, h.gb.below hb, h.gc.below hb, h.ge.below hb⟩
/-- Its numbers are numbers of int64, its rows of memory's length. -/
structure Pk.ok (p : Pk) : Prop where
  ik : I64 p.kinds
  ir : I64 p.rules
  d : p.dflt.length ≤ 1099511627776
  b : p.base.length ≤ 1099511627776
  c : p.check.length ≤ 1099511627776
  e : p.cell.length ≤ 1099511627776
  gb : p.gbase.length ≤ 1099511627776
  gc : p.gcheck.length ≤ 1099511627776
  ge : p.gcell.length ≤ 1099511627776
  ib : ∀ x ∈ p.base, I64 x
  igb : ∀ x ∈ p.gbase, I64 x
/-- Where a state's cell lies, or -1. -/
def cellF (base check : List Int) (cells s k : Int) : Int :=
  if s < base.length ∧ 0 ≤ base.getD s.toNat 0 + k ∧ base.getD s.toNat 0 + k < check.length ∧ base.getD s.toNat 0 + k < cells ∧ check.getD (base.getD s.toNat 0 + k).toNat 0 = s then base.getD s.toNat 0 + k else -1
def lookMv (p : Pk) (s k : Int) : Mv :=
  if s < 0 ∨ s ≥ p.dflt.length ∨ k < 0 ∨ k ≥ p.kinds then mv0 else if cellF p.base p.check p.cell.length s k < 0 then p.dflt.getD s.toNat mv0 else p.cell.getD (cellF p.base p.check p.cell.length s k).toNat mv0
def lookGo (p : Pk) (s r : Int) : Int :=
  if s < 0 ∨ s ≥ p.dflt.length ∨ r < 0 ∨ r ≥ p.rules then -1 else if cellF p.gbase p.gcheck p.gcell.length s r < 0 then -1 else p.gcell.getD (cellF p.gbase p.gcheck p.gcell.length s r).toNat 0
theorem cellF_lt {base check : List Int} {cells s k : Int} : cellF base check cells s k < cells ∨ cellF base check cells s k < 0 := by
  unfold cellF; split <;> omega
theorem cellF_no {base check : List Int} {cells s k : Int} (h : ¬ (s < base.length ∧ 0 ≤ base.getD s.toNat 0 + k ∧ base.getD s.toNat 0 + k < check.length ∧ base.getD s.toNat 0 + k < cells ∧ check.getD (base.getD s.toNat 0 + k).toNat 0 = s)) : cellF base check cells s k = -1 := if_neg h
theorem cellF_yes {base check : List Int} {cells s k : Int} (h : s < base.length ∧ 0 ≤ base.getD s.toNat 0 + k ∧ base.getD s.toNat 0 + k < check.length ∧ base.getD s.toNat 0 + k < cells ∧ check.getD (base.getD s.toNat 0 + k).toNat 0 = s) : cellF base check cells s k = base.getD s.toNat 0 + k := if_pos h
end Go.Proofs.YtkpehkadammppaaFx
