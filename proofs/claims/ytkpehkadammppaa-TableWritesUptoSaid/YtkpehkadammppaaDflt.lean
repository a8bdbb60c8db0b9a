/- A table with its defaults. -/
import Derived.Test.YtkpehkadammppaaHeld
import Derived.Test.YtkpehkadammppaaRUsual
set_option linter.unusedVariables false
namespace Go.Proofs.YtkpehkadammppaaFx
open Go Go.RowKit
def dfm (row : List Mv) (m : Mv) : Mv := if m.d = 0 then usualF row else m
def dfRow (row : List Mv) : List Mv := row.map (dfm row)
def dfUpto (row : List Mv) (s : Nat) : List Mv := (row.take s).map (dfm row) ++ row.drop s
theorem dfUpto_len (row : List Mv) (s : Nat) : (dfUpto row s).length = row.length := by
  simp only [dfUpto, List.length_append, List.length_map, List.length_take, List.length_drop]; omega
theorem dfUpto_get {row : List Mv} {s : Nat} (h : s < row.length) : (dfUpto row s).getD s mv0 = row.getD s mv0 := by
  have hl : ((row.take s).map (dfm row)).length = s := by simp; omega
  rw [dfUpto, List.getD_eq_getElem?_getD, List.getElem?_append_right (by omega), hl, Nat.sub_self, List.getElem?_drop, Nat.add_zero, ← List.getD_eq_getElem?_getD]
theorem dfUpto_next {row : List Mv} {s : Nat} (h : s < row.length) : dfUpto row (s + 1) = (dfUpto row s).set s (dfm row (row.getD s mv0)) := by
  have hl : ((row.take s).map (dfm row)).length = s := by simp; omega
  unfold dfUpto
  rw [List.set_append_right _ _ (by omega), hl, Nat.sub_self, take_succ' mv0 h, List.map_append, List.append_assoc]
  congr 1
  have : row.drop s = row.getD s mv0 :: row.drop (s + 1) := by
    rw [List.getD_eq_getElem?_getD, List.getElem?_eq_getElem h]
    exact List.drop_eq_getElem_cons h
  rw [this, List.set_cons_zero]
  rfl
theorem dfUpto_keep {row : List Mv} {s : Nat} (h : s < row.length) (hd : ¬ (row.getD s mv0).d = 0) : dfUpto row (s + 1) = dfUpto row s := by
  rw [dfUpto_next h, dfm, if_neg hd]
  have := dfUpto_get h
  rw [← this]
  apply List.ext_getElem?
  intro j
  rcases Nat.decEq s j with hj | hj
  · rw [List.getElem?_set_ne hj]
  · subst hj
    have hl : s < (dfUpto row s).length := by rw [dfUpto_len]; exact h
    rw [List.getElem?_set_self hl, List.getD_eq_getElem?_getD, List.getElem?_eq_getElem hl]
    rfl
theorem dfUpto_all {row : List Mv} {s : Nat} (h : ¬ ((s : Int) < row.length)) : dfUpto row s = dfRow row := by
  rw [dfUpto, take_all h, List.drop_of_length_le (by omega), List.append_nil]
  rfl
theorem dfUpto_zero (row : List Mv) : dfUpto row 0 = row := rfl
theorem map_take_succ {α β : Type} {xs : List α} {i : Nat} (z : α) (g : α → β) (h : i < xs.length) : (xs.take (i + 1)).map g = (xs.take i).map g ++ [g (xs.getD i z)] := by
  rw [take_succ' z h, List.map_append]
  rfl
/-- The table with its defaults. -/
def dfT (t : Tb) : Tb := ⟨t.mv.map dfRow, t.go⟩
/-- What Defaults answers. -/
noncomputable def dfAns (t : Tb) : Tb := if dec (Rect t) then dfT t else ⟨[], []⟩
noncomputable def dfErr (t : Tb) : Int := if dec (Rect t) then 0 else 170
theorem dfAns_t {t : Tb} (h : dec (Rect t) = true) : dfAns t = dfT t ∧ dfErr t = 0 := by
  rw [dfAns, dfErr, h]; exact ⟨rfl, rfl⟩
theorem dfAns_f {t : Tb} (h : dec (Rect t) = false) : dfAns t = ⟨[], []⟩ ∧ dfErr t = 170 := by
  rw [dfAns, dfErr, h]; exact ⟨rfl, rfl⟩
/-- A table of the call's own. -/
def OwnT (v1 v2 : Value) (t : Tb) : List Ch := [RR fMv 38 48 v1 t.mv, RR (fInt .i64) 39 3 v2 t.go]
section
variable {α : Type} {f : Fk α} {P : Program} {n : Nat} {Q : Post} {l : Fr} {w W0 : World} {L : List Ch} {ops : Array Oper} {rest : List Oper} {d : Nat} {x sx : Operand} {ty t e : TypeId} {pos : String} {af : Array Edge} {v : Value} {A : Option Addr}
/-- append(nil, ys...): a copy. -/
theorem wl_copy {z : Value} {bytes c' : Nat} {ys : List α} (H : Holds W0 L w) (hn : Nat.ble (d + 1) n = true)
    (ht : P.underlying t = some (.slice e)) (hi : (P.info? e).map (fun i => (i.zero, i.size, i.bytes)) = some (some z, f.sz, bytes)) (hz : z.cells.size = f.sz) (hs0 : 0 < f.sz)
    (hs : ev l sx = some (.slice none 0 0)) (hx : ev l x = some (.slice A ys.length c')) (hr : Rd f.kn w A ys) (hb : ys.length * bytes ≤ 140737488355328) (hb0 : 0 < bytes)
    (h : ∀ A c w', Holds W0 (Row f e (.slice A ys.length c) ys :: L) w' → w.heap.size ≤ w'.heap.size → wl P n ops rest Q ((d, .slice A ys.length c) :: l) w') : wl P n ops (⟨some d, .call { callee := .builtin .append, args := #[sx, x], argTypes := #[t, t] }, ty, pos, af, none⟩ :: rest) Q l w := by
  have Hn : Holds W0 (Row f e (.slice none 0 0) [] :: L) w := H.nilrow e f.sz
  refine wl_appR (xs := []) (ys := ys) (L' := fun v' => Row f e v' ys :: L) Hn (fun v' => .here _ _ _) hn ht hi hz hs0 hs hx hr (by simpa using hb) hb0 (fun A c w' H' hsz => h A c w' H' hsz)
end
end Go.Proofs.YtkpehkadammppaaFx
