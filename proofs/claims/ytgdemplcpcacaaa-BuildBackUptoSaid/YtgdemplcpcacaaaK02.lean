/- Rows of the call's own: read, stored into, made; calls without a body. Equality of structs of numbers. Tables as plain data. Rows of rows of the call's own. A region that draws its order: first what yields the same wherever S holds, then the rest in the text's order. Trees that are read: a struct whose last field are its kids. Grammars as plain data. What is laid down and only read from then on: frozen things, rows of them. Builders of strings of the call's own. Shifts. Pieces of texts: runes. -/
import Derived.Test.YtgdemplcpcacaaaK01
import Derived.Laws.MakeOwn
import Derived.Laws.StructEq
import Derived.OrdersHeld
import Derived.Lib.Builder
import Derived.Lib.AppendStr
import Derived.Lib.UnsafeStr
import Derived.Laws.Pointers
import Derived.Laws.BitsLemmas
import Derived.Laws.Runes
import Derived.Laws.RangeString
import Derived.Laws.RangeAny
import Derived.Lib.OthersKept
set_option linter.unusedVariables false
/-! Rows of the call's own: read, stored into, made; calls without a body. -/
namespace Go.Proofs.YtgdemplcpcacaaaFx
open Go Go.RowKit
section
variable {α : Type} {f : Fk α} {w w' W0 : World} {A : Option Addr} {xs : List α} {L L' : List Ch} {e n c : Nat} {v : Value}
theorem Holds.rrd (H : Holds W0 L w) (U : Upd L (Row f e (.slice A n c) xs) (Row f e (.slice A n c) xs) L) : Rd f.kn w A xs := (rd_of_own (H.raw U)).2.2
theorem Holds.rlen (H : Holds W0 L w) (U : Upd L (Row f e (.slice A n c) xs) (Row f e (.slice A n c) xs) L) : n = xs.length := (rd_of_own (H.raw U)).1
theorem Holds.rcap (H : Holds W0 L w) (U : Upd L (Row f e (.slice A n c) xs) (Row f e (.slice A n c) xs) L) : xs.length ≤ c := (rd_of_own (H.raw U)).2.1
theorem Holds.rmax (H : Holds W0 L w) (U : Upd L (Row f e v xs) (Row f e v xs) L) : xs.length ≤ maxLen := own_max (H.raw U)
/-- A row's value is a slice. -/
theorem Holds.rform (H : Holds W0 L w) (U : Upd L (Row f e v xs) (Row f e v xs) L) : ∃ A c, v = .slice A xs.length c := by
  obtain ⟨A, c, h, _, _⟩ := H.row U
  exact ⟨A, c, h⟩
theorem put_splice : ∀ (cs : List Value) (off : Nat) (vs : List Value), off + vs.length ≤ cs.length → Put cs off vs (cs.take off ++ vs ++ cs.drop (off + vs.length))
  | cs, 0, [], _ => by simpa using Put.nil cs
  | [], 0, v :: vs, h => by simp at h
  | c :: cs, 0, v :: vs, h => by
    have := put_splice cs 0 vs (by simp at h ⊢; omega)
    simp only [List.take_zero, List.nil_append, Nat.zero_add] at this ⊢
    rw [List.length_cons, List.drop_succ_cons]
    exact .here v this
  | [], off + 1, vs, h => by simp at h
  | c :: cs, off + 1, vs, h => by
    have := put_splice cs off vs (by simp at h; omega)
    rw [List.take_succ_cons, show off + 1 + vs.length = (off + vs.length) + 1 by omega, List.drop_succ_cons]
    exact .there this
theorem flat_splice (f : Fk α) : ∀ (xs : List α) (j : Nat) (x : α), j < xs.length → (xs.flatMap f.enc).take (j * f.sz) ++ f.enc x ++ (xs.flatMap f.enc).drop (j * f.sz + f.sz) = (xs.set j x).flatMap f.enc
  | [], j, x, h => by simp at h
  | y :: r, 0, x, _ => by
    have h := f.len y
    rw [List.flatMap_cons, List.set_cons_zero, List.flatMap_cons, Nat.zero_mul, List.take_zero, List.nil_append, Nat.zero_add, ← h, List.drop_left]
  | y :: r, j + 1, x, hj => by
    have h := f.len y
    have e1 : (j + 1) * f.sz = (f.enc y).length + j * f.sz := by rw [h, Nat.add_mul, Nat.one_mul, Nat.add_comm]
    rw [List.flatMap_cons, List.set_cons_succ, List.flatMap_cons, e1, List.take_append, List.take_of_length_le (by omega), show (f.enc y).length + j * f.sz - (f.enc y).length = j * f.sz by omega, Nat.add_assoc, List.drop_append, List.drop_of_length_le (by omega), List.nil_append,
      show (f.enc y).length + (j * f.sz + f.sz) - (f.enc y).length = j * f.sz + f.sz by omega, List.append_assoc, List.append_assoc, ← List.append_assoc (List.take _ _), flat_splice f r j x (by simpa using hj)]
end
theorem take_splice (cs vs : List Value) (a b N : Nat) (hb : vs.length = b) (h : a + b ≤ N) (hN : N ≤ cs.length) : (cs.take a ++ vs ++ cs.drop (a + b)).take N = (cs.take N).take a ++ vs ++ (cs.take N).drop (a + b) := by
  subst hb
  have h1 : (cs.take a).length = a := by rw [List.length_take]; omega
  rw [List.append_assoc, List.append_assoc, List.take_append, h1, List.take_append, List.take_of_length_le (by omega), List.take_of_length_le (l := vs) (by omega), List.take_take, Nat.min_eq_left (by omega), List.drop_take]
  congr 3
  omega
section
variable {α : Type} {f : Fk α} {P : Program} {n : Nat} {Q : Post} {l : Fr} {w W0 : World} {L L' : List Ch} {ops : Array Oper} {rest : List Oper} {d : Nat} {x y : Operand} {ty t e : TypeId} {pos : String} {af : Array Edge} {v : Value} {A : Option Addr} {m c : Nat} {i : Int} {xs : List α} {x' : α}
/-- A store of a whole element into a row of the call's own. -/
theorem wl_storeR (H : Holds W0 L w) (U : Upd L (Row f e (.slice A m c) xs) (Row f e (.slice A m c) (xs.set i.toNat x')) L') (hsz : ∀ W, (sizeOf t).run P W = .ok f.sz W) (hx : ev l x = some (.pointer (some ((adr A).add (i.toNat * f.sz))))) (hy : ev l y = some v) (hc : v.cells = (f.enc x').toArray) (h0 : 0 ≤ i) (h1 : i < xs.length)
    (h : ∀ w', Holds W0 L' w' → wl P n ops rest Q l w') : wl P n ops (⟨none, .store t x y, ty, pos, af, none⟩ :: rest) Q l w := by
  obtain ⟨S, hS, ⟨hSv, hown⟩, hstep⟩ := H.upd U
  have hlt : i.toNat < xs.length := by omega
  have hm : m = xs.length := (rd_of_own hown).1
  subst hm
  rcases hown.2 with ⟨hnil, hz⟩ | ⟨g, cap, cur, hv, _, hh, hnc, hcm, hsz2, hcur⟩
  · omega
  · injection hv with hA _ hcap
    subst hA hcap
    have hfl := flat_len f xs
    have hcl : cur.toList.length = c * f.sz := by simpa using hsz2
    have hle : xs.length * f.sz ≤ cur.toList.length := by rw [hcl]; exact Nat.mul_le_mul_right _ hnc
    have hoff : i.toNat * f.sz + f.sz ≤ xs.length * f.sz := by rw [← Nat.succ_mul]; exact Nat.mul_le_mul_right _ hlt
    obtain ⟨w', hr, g1, g2, g3, g4, g5, g6⟩ := run_storeCells_blk (P := P) (b := g) (t := e) (off := i.toNat * f.sz) (f.enc x') 0 w cur.toList _ (by simpa using hh) (put_splice cur.toList _ _ (by rw [f.len]; omega)) (f.one x')
    refine wl_s (w' := w') rfl rfl (fun a ha => ?_) (h w' (hstep w' S g4 g5 g6 (by omega) (fun k hk hn => g2 k (fun e => hn (e ▸ hSv g (by simp [Value.ownBlock])))) (fun k hk => .inl hk) ⟨hSv, ?_⟩))
    · simp [execOp, ha.eval hx, ha.eval hy, Instr.storeAt, Instr.sureAddr, storeVar, hsz, hc, f.len, adr, Addr.add_lit, hr]
    · refine ⟨by rw [flat_len, List.length_set], .inr ⟨g, c, _, by rw [List.length_set], Nat.zero_le _, g1, by rw [List.length_set]; exact hnc, hcm, ?_, ?_⟩⟩
      · simp only [List.size_toArray, List.length_append, List.length_take, List.length_drop, f.len, hcl]
        rw [hcl] at hle
        omega
      · rw [List.length_set, ← flat_splice f xs i.toNat x' hlt, ← hcur]
        exact take_splice cur.toList (f.enc x') (i.toNat * f.sz) _ _ rfl (by rw [f.len]; exact hoff) hle |>.trans (by rw [f.len])
theorem made_flat (f : Fk α) (z : Value) (z' : α) (hz : z.cells = (f.enc z').toArray) (hs0 : 0 < f.sz) (N : Nat) : (madeCells z.cells (N * f.sz)).toList = (List.replicate N z').flatMap f.enc := by
  rw [hz]
  have hsz : (f.enc z').toArray.size = f.sz := by simp [f.len]
  apply List.ext_getElem?
  intro j
  by_cases hj : j < N * f.sz
  · have hq : j / f.sz < N := (Nat.div_lt_iff_lt_mul hs0).2 hj
    have hr : j % f.sz < f.sz := Nat.mod_lt _ hs0
    have e1 := flat_get f (List.replicate N z') (j / f.sz) z' (by rw [List.getElem?_replicate, if_pos hq]) (j % f.sz) _ (List.getElem?_eq_getElem (by rw [f.len]; exact hr))
    rw [show j / f.sz * f.sz + j % f.sz = j from Nat.div_add_mod' j f.sz] at e1
    rw [e1]
    simp only [madeCells, Array.toList_map, Array.toList_range, List.getElem?_map, List.getElem?_range hj, Option.map_some, hsz]
    congr 1
    simp [f.len, hr]
  · rw [List.getElem?_eq_none (by simp [madeCells]; omega), List.getElem?_eq_none (by rw [flat_len]; simp; omega)]
/-- make([]T, n). -/
theorem wl_make {z : Value} {z' : α} {bytes : Nat} {q : Int} (H : Holds W0 L w) (hn : Nat.ble (d + 1) n = true) (ht : P.underlying t = some (.slice e)) (hi : (P.info? e).map (fun i => (i.zero, i.size, i.bytes)) = some (some z, f.sz, bytes)) (hz : z.cells = (f.enc z').toArray) (hs0 : 0 < f.sz)
    (hx : ev l x = some (.int .i64 q)) (hy : ev l y = some (.int .i64 q)) (h0 : 0 ≤ q) (hb : q * bytes ≤ 140737488355328) (hb0 : 0 < bytes)
    (h : ∀ A w', Holds W0 (Row f e (.slice A q.toNat q.toNat) (List.replicate q.toNat z') :: L) w' → w.heap.size ≤ w'.heap.size → wl P n ops rest Q ((d, .slice A q.toNat q.toNat) :: l) w') : wl P n ops (⟨some d, .makeSlice t x y, ty, pos, af, none⟩ :: rest) Q l w := by
  obtain ⟨i0, hi1, hi2⟩ := Option.map_eq_some_iff.1 hi
  simp only [Prod.mk.injEq] at hi2
  obtain ⟨g1, g2, g3⟩ := hi2
  obtain ⟨N, rfl⟩ := Int.eq_ofNat_of_zero_le h0
  have hN : N ≤ 140737488355328 := by
    have h2 : (N : Int) * 1 ≤ (N : Int) * bytes := Int.mul_le_mul_of_nonneg_left (by omega) (by omega)
    omega
  have hrun : (Instr.makeSlice t (.int .i64 (N : Int)) (.int .i64 (N : Int))).run P w = .ok (.slice (some ⟨w.heap.size, 0, none⟩) N N) (w.alloc (.cells (madeCells z.cells (N * f.sz)) e)) := by
    have h1 := run_make (P := P) w t e i0 z ht hi1 g1 .i64 .i64 (N : Int) N (by omega) (Int.le_refl _) (by rw [g3, Int.mul_comm]; exact Int.le_trans hb (by decide)) (by omega)
    rw [g2, Int.toNat_natCast] at h1
    exact h1
  refine wl_v rfl rfl hn (w' := w.alloc (.cells (madeCells z.cells (N * f.sz)) e)) (v := .slice (some ⟨w.heap.size, 0, none⟩) N N) (fun a ha => by simp [execOp, ha.eval hx, ha.eval hy, hrun]) ?_
  have := h (some ⟨w.heap.size, 0, none⟩) (w.alloc (.cells (madeCells z.cells (N * f.sz)) e)) ?_ (by simp)
  · simpa using this
  · refine H.push (below_alloc' w _) ⟨fun k hk => ?_, ?_⟩
    · have : w.heap.size = k := by simpa [Value.ownBlock] using hk
      subst this
      simp
    · have hl := made_flat f z z' hz hs0 N
      have := World.ownsRow_lit (base := 0) (e := e) (size := f.sz) w (madeCells z.cells (N * f.sz)) N (Nat.zero_le _) (by simp only [maxLen]; omega) (by simp [size_madeCells])
      rw [hl] at this
      simpa using this
theorem raw_row {α : Type} {f : Fk α} {e : TypeId} {v : Value} {xs ys : List α} {N : Nat} {cs : List Value} (hN : N = (xs ++ ys).length) (hcs : cs = (xs ++ ys).flatMap f.enc) : Raw e f.sz v N cs = Row f e v (xs ++ ys) := by subst hN hcs; rfl
/-- append(s, y). -/
theorem wl_app1 {z : Value} {bytes b : Nat} {cs : List Value} {y' : α} {sx : Operand} {L' : Value → List Ch} (H : Holds W0 L w) (U : ∀ v', Upd L (Row f e v xs) (Row f e v' (xs ++ [y'])) (L' v')) (UB : Upd L (Blk b e cs) (Blk b e cs) L) (hn : Nat.ble (d + 1) n = true)
    (ht : P.underlying t = some (.slice e)) (hi : (P.info? e).map (fun i => (i.zero, i.size, i.bytes)) = some (some z, f.sz, bytes)) (hz : z.cells.size = f.sz) (hs0 : 0 < f.sz)
    (hs : ev l sx = some v) (hx : ev l x = some (.slice (some ⟨b, 0, none⟩) 1 1)) (hcs : cs = f.enc y') (hb : (xs.length + 1) * bytes ≤ 140737488355328) (hb0 : 0 < bytes)
    (h : ∀ A c w', Holds W0 (L' (.slice A (xs ++ [y']).length c)) w' → w.heap.size ≤ w'.heap.size → wl P n ops rest Q ((d, .slice A (xs ++ [y']).length c) :: l) w') : wl P n ops (⟨some d, .call { callee := .builtin .append, args := #[sx, x], argTypes := #[t, t] }, ty, pos, af, none⟩ :: rest) Q l w := by
  subst hcs
  have hl : (f.enc y').length = 1 * f.sz := by rw [f.len, Nat.one_mul]
  have e1 : xs.flatMap f.enc ++ f.enc y' = (xs ++ [y']).flatMap f.enc := by simp
  refine wl_append (L' := L') (cs := xs.flatMap f.enc) (news := f.enc y') H (fun v' => ?_) hn ht hi hz hs0 hs hx (fun _ => rfl) hl (fun j u hu => ?_) (f.one y') hb hb0 (fun v' w' H' hsz => ?_)
  · rw [raw_row (xs := xs) (ys := [y']) (by simp) e1]
    exact U v'
  · exact H.ats UB j u hu
  · have hown : w'.ownsRow 0 e f.sz v' (xs ++ [y']).length ((xs ++ [y']).flatMap f.enc) := by
      obtain ⟨_, _, ⟨_, ho⟩, _⟩ := H'.upd (U v').swap
      exact ho
    obtain ⟨A, c, rfl, _, _, _⟩ := own_slice hown
    exact h A c w' H' hsz
/-- append(s, ys...), ys read. -/
theorem wl_appR {z : Value} {bytes c' : Nat} {ys : List α} {sx : Operand} {L' : Value → List Ch} (H : Holds W0 L w) (U : ∀ v', Upd L (Row f e v xs) (Row f e v' (xs ++ ys)) (L' v')) (hn : Nat.ble (d + 1) n = true)
    (ht : P.underlying t = some (.slice e)) (hi : (P.info? e).map (fun i => (i.zero, i.size, i.bytes)) = some (some z, f.sz, bytes)) (hz : z.cells.size = f.sz) (hs0 : 0 < f.sz)
    (hs : ev l sx = some v) (hx : ev l x = some (.slice A ys.length c')) (hr : Rd f.kn w A ys) (hb : (xs.length + ys.length) * bytes ≤ 140737488355328) (hb0 : 0 < bytes)
    (h : ∀ A c w', Holds W0 (L' (.slice A (xs ++ ys).length c)) w' → w.heap.size ≤ w'.heap.size → wl P n ops rest Q ((d, .slice A (xs ++ ys).length c) :: l) w') : wl P n ops (⟨some d, .call { callee := .builtin .append, args := #[sx, x], argTypes := #[t, t] }, ty, pos, af, none⟩ :: rest) Q l w := by
  have e1 : xs.flatMap f.enc ++ ys.flatMap f.enc = (xs ++ ys).flatMap f.enc := by simp
  refine wl_append (L' := L') (cs := xs.flatMap f.enc) (news := ys.flatMap f.enc) H (fun v' => ?_) hn ht hi hz hs0 hs hx hr.ad (flat_len f ys) (fun j u hu => ?_) (fun u hu => ?_) hb hb0 (fun v' w' H' hsz => ?_)
  · rw [raw_row (xs := xs) (ys := ys) (by simp) e1]
    exact U v'
  · have hj : j < ys.length * f.sz := by rw [← flat_len]; exact (List.getElem?_eq_some_iff.1 hu).1
    have hq : j / f.sz < ys.length := (Nat.div_lt_iff_lt_mul hs0).2 hj
    obtain ⟨cs, rfl, hc⟩ := hr.el (j / f.sz) _ (List.getElem?_eq_getElem hq)
    have hm : j % f.sz < (f.enc ys[j / f.sz]).length := by rw [f.len]; exact Nat.mod_lt _ hs0
    have e2 := flat_get f ys (j / f.sz) _ (List.getElem?_eq_getElem hq) (j % f.sz) _ (List.getElem?_eq_getElem hm)
    have e3 := hc (j % f.sz) _ (List.getElem?_eq_getElem hm)
    have e4 : j / f.sz * f.sz + j % f.sz = j := Nat.div_add_mod' j f.sz
    rw [e4, hu] at e2
    rw [← e2] at e3
    have e5 : j / f.sz * f.kn.sz + j % f.sz = j := e4
    rw [e5] at e3
    exact e3
  · obtain ⟨y', _, hy'⟩ := List.mem_flatMap.1 hu
    exact f.one y' u hy'
  · have hown : w'.ownsRow 0 e f.sz v' (xs ++ ys).length ((xs ++ ys).flatMap f.enc) := by
      obtain ⟨_, _, ⟨_, ho⟩, _⟩ := H'.upd (U v').swap
      exact ho
    obtain ⟨A, c, rfl, _, _, _⟩ := own_slice hown
    exact h A c w' H' hsz
/-- A call of a function without a body. -/
theorem wl_ext {fo : FuncId} {xs : List Operand} {vs : List Value} {ats : Array TypeId} {w' : World} (hx : evs l xs = some vs) (hn : Nat.ble (d + 1) n = true) (hrun : (callFunc fo vs.toArray).run P w = .ok (.value v) w')
    (h : wl P n ops rest Q ((d, v) :: l) w') : wl P n ops (⟨some d, .call { callee := .value (.func fo), args := xs.toArray, argTypes := ats }, ty, pos, af, none⟩ :: rest) Q l w := fun a ha => by
  refine wpList_plain rfl fun K hK => ?_
  unfold Oper.wp
  have hargs : xs.toArray.map a.eval = vs.toArray := by rw [List.map_toArray, ha.evals hx]
  have hr : (execOp a.eval ⟨some d, .call { callee := .value (.func fo), args := xs.toArray, argTypes := ats }, ty, pos, af, none⟩).run P w = .ok (.value v) w' := by
    simp only [execOp, resolve, Act.eval, Deferred.ofValue, Sem.run_bind, Sem.run_pure, Result.andThen_ok, invoke, hargs, Array.empty_append, Array.append_empty]
    exact hrun
  rw [hr, Oper.upon_value]
  exact hK _ _ (h _ (ha.put hn v))
theorem wl_extv {fo : FuncId} {fx : Operand} {first captured : List Value} {xs : List Operand} {vs : List Value} {ats : Array TypeId} {w' : World} (hf : ev l fx = some (.func (.func fo) first.toArray captured.toArray)) (hx : evs l xs = some vs) (hn : Nat.ble (d + 1) n = true) (hrun : (callFunc fo (first ++ vs ++ captured).toArray).run P w = .ok (.value v) w')
    (h : wl P n ops rest Q ((d, v) :: l) w') : wl P n ops (⟨some d, .call { callee := .value fx, args := xs.toArray, argTypes := ats }, ty, pos, af, none⟩ :: rest) Q l w := fun a ha => by
  refine wpList_plain rfl fun K hK => ?_
  unfold Oper.wp
  have hargs : xs.toArray.map a.eval = vs.toArray := by rw [List.map_toArray, ha.evals hx]
  have hr : (execOp a.eval ⟨some d, .call { callee := .value fx, args := xs.toArray, argTypes := ats }, ty, pos, af, none⟩).run P w = .ok (.value v) w' := by
    simp only [execOp, resolve, ha.eval hf, Deferred.ofValue, Sem.run_bind, Sem.run_pure, Result.andThen_ok, invoke, hargs, List.append_toArray]
    exact hrun
  rw [hr, Oper.upon_value]
  exact hK _ _ (h _ (ha.put hn v))
theorem v_iface {p : Value} {i : TypeId} (hc : (P.underlying t).map (fun k => match k with | .interface _ => false | _ => true) = some true) (hx : ev l x = some p) : Vs P n l ⟨some d, .makeInterface t x, ty, pos, af, none⟩ w (.iface t p) := fun a ha => by
  obtain ⟨k, hk, hk2⟩ := Option.map_eq_some_iff.1 hc
  have hu : (underlying t).run P w = .ok k w := run_underlying hk w
  cases k <;> simp_all [execOp, ha.eval hx, Instr.makeInterface, Result.andThen]
end
end Go.Proofs.YtgdemplcpcacaaaFx

/-! Equality of structs of numbers. -/
namespace Go.Proofs.YtgdemplcpcacaaaFx
open Go Go.RowKit
/-- Some statement's truth. -/
noncomputable def dec (p : Prop) : Bool := @decide p (Classical.propDecidable p)
theorem dec_t {p : Prop} (h : p) : dec p = true := by simp [dec, h]
theorem dec_f {p : Prop} (h : ¬ p) : dec p = false := by simp [dec, h]
theorem dec_iff {p q : Prop} (h : p ↔ q) : dec p = dec q := by rw [propext h]
theorem dec_eq {p : Prop} {b : Bool} (h : b = true ↔ p) : b = dec p := by
  cases b
  · exact (dec_f fun hp => by simpa using h.2 hp).symm
  · exact (dec_t (h.1 rfl)).symm
theorem of_dec {p : Prop} (h : dec p = true) : p := by
  rcases Classical.em p with hp | hp
  · exact hp
  · rw [dec_f hp] at h; exact absurd h (by simp)
theorem of_ndec {p : Prop} (h : dec p = false) : ¬ p := fun hp => by rw [dec_t hp] at h; exact absurd h (by simp)
section
variable {P : Program} {e : TypeId} {k' k : IntKind}
theorem eqf_step {d off : Nat} {f : Field} {fs : List Field} {xs ys : Array Value} {a b : Int} (he : P.underlying e = some (.int k')) (hf : (f.name != "_", f.type, f.offset) = (true, e, off)) (hx : xs[off]? = some (.int k a)) (hy : ys[off]? = some (.int k b)) (W : World) :
    (Op.eqFields (d + 1) xs ys (f :: fs)).run P W = if a = b then (Op.eqFields (d + 1) xs ys fs).run P W else .ok false W := by
  simp only [Prod.mk.injEq] at hf
  obtain ⟨h1, h2, h3⟩ := hf
  have hn : f.name ≠ "_" := by simpa using h1
  have hp : ∀ (cs : Array Value) (v : Value), cs[off]? = some v → (part f.type cs f.offset).run P W = .ok v W := fun cs v hv => by
    rw [h2, h3]
    have ha : (isAgg e).run P W = .ok false W := by
      simp only [isAgg, Sem.run_bind, run_underlying he, Result.andThen_ok]
      rfl
    simp [part, ha, hv, Result.andThen]
  rw [Op.eqFields, if_pos hn]
  simp only [Sem.run_bind, hp _ _ hx, hp _ _ hy, Result.andThen_ok]
  rw [h2, run_equalIn_int W d e k k' a b he]
  simp only [Result.andThen_ok]
  by_cases hab : a = b
  · simp [hab]
  · simp [hab]
def EqlMv (P : Program) (t : TypeId) : Prop := P.eqGuardType P.depth t = false ∧ ∀ (W : World) (x y : Mv), (Op.equalIn 10000 t (.agg (fMv.enc x).toArray) (.agg (fMv.enc y).toArray)).run P W = .ok (decide (x = y)) W
theorem eql_mv {t : TypeId} {f0 f1 : Field} (ht' : P.underlying t = some (.struct #[f0, f1])) (hp : P.stoodInHeld t = false) (hg : P.eqGuardType P.depth t = false) (he : P.underlying e = some (.int k')) (h0 : (f0.name != "_", f0.type, f0.offset) = (true, e, 0)) (h1 : (f1.name != "_", f1.type, f1.offset) = (true, e, 1)) : EqlMv P t := by
  have hf0 : P.fieldsOf t = #[f0, f1] := by simp only [Program.fieldsOf, ht']
  have ht : P.underlying t = some (.struct (P.fieldsOf t)) := by rw [hf0]; exact ht'
  have hf : (P.fieldsOf t).toList = [f0, f1] := by rw [hf0]
  refine ⟨hg, fun W x y => ?_⟩
  rw [run_equalIn_struct W 9999 t _ _ ht hp, hf, eqf_step (d := 9998) (off := 0) (k := .i64) (a := x.d) (b := y.d) he h0 rfl rfl, eqf_step (d := 9998) (off := 1) (k := .i64) (a := x.n) (b := y.n) he h1 rfl rfl]
  obtain ⟨a, b⟩ := x
  obtain ⟨c, d⟩ := y
  by_cases hac : a = c <;> by_cases hbd : b = d <;> simp [hac, hbd, Op.eqFields]
variable {n : Nat} {l : Fr} {w : World} {d : Nat} {x y : Operand} {ty t t2 : TypeId} {pos : String} {af : Array Edge} {a b : Mv}
theorem v_eqlm (hE : EqlMv P t) (hx : ev l x = some (.agg (fMv.enc a).toArray)) (hy : ev l y = some (.agg (fMv.enc b).toArray)) : Vs P n l ⟨some d, .binOp .eql t x y t2, ty, pos, af, none⟩ w (.bool (decide (a = b))) := fun c hc => by
  simp [execOp, hc.eval hx, hc.eval hy, run_eqGuard_agg w _ t x y _ _ hE.1, run_eql_struct, hE.2, Result.andThen]
theorem v_neqm (hE : EqlMv P t) (hx : ev l x = some (.agg (fMv.enc a).toArray)) (hy : ev l y = some (.agg (fMv.enc b).toArray)) : Vs P n l ⟨some d, .binOp .neq t x y t2, ty, pos, af, none⟩ w (.bool (!decide (a = b))) := fun c hc => by
  simp [execOp, hc.eval hx, hc.eval hy, run_eqGuard_agg w _ t x y _ _ hE.1, run_neq_struct, hE.2, Result.andThen]
end
end Go.Proofs.YtgdemplcpcacaaaFx

/-! Tables as plain data. -/
namespace Go.Proofs.YtgdemplcpcacaaaFx
open Go Go.RowKit
theorem eq_step {α : Type} {xs ys : List α} {i : Nat} (z : α) (h : xs.take i = ys.take i) (hl : (xs.length : Int) = ys.length) (hi : i < xs.length) (he : xs.getD i z = ys.getD i z) : xs.take (i + 1) = ys.take (i + 1) := by
  rw [take_succ' z hi, take_succ' z (by omega), h, he]
theorem eq_done {α : Type} {xs ys : List α} {i : Nat} (h : xs.take i = ys.take i) (hl : (xs.length : Int) = ys.length) (hi : ¬ ((i : Int) < xs.length)) : xs = ys := by
  rwa [take_all hi, take_all (by omega)] at h
theorem ne_at {α : Type} {xs ys : List α} {i : Nat} {z : α} (h : xs.getD i z ≠ ys.getD i z) : xs ≠ ys := fun e => h (by rw [e])
theorem ne_len {α : Type} {xs ys : List α} (h : ¬ ((xs.length : Int) = ys.length)) : xs ≠ ys := fun e => h (by rw [e])
section
variable {α : Type} {f : Fk α} {d : Kn α} {w : World} {A : Option Addr} {i : Nat}
theorem Rd.atN {xs : List α} (h : Rd f.kn w A xs) (z : α) (h1 : i < xs.length) {k : Nat} {u : Value} (hu : (f.enc (xs.getD i z))[k]? = some u) : w.cell? (((adr A).add ((i : Int).toNat * f.sz)).add k) = some u := h.at z (i := (i : Int)) (by omega) (by omega) hu
theorem Rd.at1N {k : IntKind} {xs : List Int} (h : Rd (kInt k) w A xs) (h1 : i < xs.length) : w.cell? ((adr A).add ((i : Int).toNat * 1)) = some (.int k (xs.getD i 0)) := h.at1 (i := (i : Int)) (by omega) (by omega)
theorem Rd.at1sN {xs : List ByteArray} (h : Rd kStr w A xs) (h1 : i < xs.length) : w.cell? ((adr A).add ((i : Int).toNat * 1)) = some (.string (xs.getD i ByteArray.empty)) := h.at1s (i := (i : Int)) (by omega) (by omega)
theorem Rd.at1bN {xs : List Bool} (h : Rd kBool w A xs) (h1 : i < xs.length) : w.cell? ((adr A).add ((i : Int).toNat * 1)) = some (.bool (xs.getD i false)) := h.at1b (i := (i : Int)) (by omega) (by omega)
theorem Rd.atSlN {xs : List (List α)} (h : Rd d.sl w A xs) (h1 : i < xs.length) : ∃ B c, w.cell? ((adr A).add ((i : Int).toNat * 1)) = some (.slice B (xs.getD i []).length c) ∧ (xs.getD i []).length ≤ c ∧ Rd d w B (xs.getD i []) := h.atSl (i := (i : Int)) (by omega) (by omega)
end
/-- A table. -/
structure Tb where
  mv : List (List Mv)
  go : List (List Int)
  deriving DecidableEq
structure Tb.ok (t : Tb) : Prop where
  m : t.mv.length ≤ 1099511627776
  g : t.go.length ≤ 1099511627776
  mr : ∀ r ∈ t.mv, r.length ≤ 1099511627776 ∧ ∀ m ∈ r, I64 m.d ∧ I64 m.n
  gr : ∀ r ∈ t.go, r.length ≤ 1099511627776 ∧ ∀ x ∈ r, I64 x
abbrev Tb.val (t : Tb) (A B : Option Addr) (ca cb : Nat) : Value := .agg #[.slice A t.mv.length ca, .slice B t.go.length cb]
structure Tb.rd (t : Tb) (w : World) (A B : Option Addr) : Prop where
  m : Rd fMv.kn.sl w A t.mv
  g : Rd (kInt .i64).sl w B t.go
theorem Tb.rd.below {t : Tb} {w w' : World} {A B : Option Addr} (h : t.rd w A B) (hb : Below w.heap.size w w') : t.rd w' A B := ⟨h.m.below hb, h.g.below hb⟩
theorem Tb.ok.ml {t : Tb} (h : t.ok) {i : Nat} (hi : i < t.mv.length) : (t.mv.getD i []).length ≤ 1099511627776 := (h.mr _ (getD_mem hi)).1
theorem Tb.ok.gl {t : Tb} (h : t.ok) {i : Nat} (hi : i < t.go.length) : (t.go.getD i []).length ≤ 1099511627776 := (h.gr _ (getD_mem hi)).1
theorem Tb.ok.m' {t : Tb} (h : t.ok) : t.mv.length ≤ 1099511627776 := h.m
theorem Tb.ok.g' {t : Tb} (h : t.ok) : t.go.length ≤ 1099511627776 := h.g
/-- All states have a row of each sort, as long as the first state's. -/
def Rect (t : Tb) : Prop := 0 < t.mv.length ∧ 0 < (t.mv.getD 0 []).length ∧ t.go.length = t.mv.length ∧ ∀ s, s < t.mv.length → (t.mv.getD s []).length = (t.mv.getD 0 []).length ∧ (t.go.getD s []).length = (t.go.getD 0 []).length
theorem upto_succ {p : Nat → Prop} {i : Nat} (h : ∀ s, s < i → p s) (hi : p i) : ∀ s, s < i + 1 → p s := fun s hs => by
  rcases Nat.lt_or_eq_of_le (Nat.le_of_lt_succ hs) with h1 | rfl
  · exact h s h1
  · exact hi
theorem upto_zero {p : Nat → Prop} : ∀ s, s < 0 → p s := fun s hs => absurd hs (Nat.not_lt_zero s)
/-- A move a table of n states and pr productions may have. -/
def mvOk (m : Mv) (n pr : Int) : Prop := (m.d = 1 ∧ 0 ≤ m.n ∧ m.n < n) ∨ (m.d = 2 ∧ 0 ≤ m.n ∧ m.n < pr) ∨ ((m.d = 0 ∨ m.d = 3) ∧ m.n = 0)
def goOk (x n : Int) : Prop := -1 ≤ x ∧ x < n
/-- A state's rows. -/
def rowOk (t : Tb) (k r p : Int) (s : Nat) : Prop := ((t.mv.getD s []).length : Int) = k ∧ ((t.go.getD s []).length : Int) = r ∧ (∀ j, j < (t.mv.getD s []).length → mvOk ((t.mv.getD s []).getD j mv0) t.mv.length p) ∧ ∀ j, j < (t.go.getD s []).length → goOk ((t.go.getD s []).getD j 0) t.mv.length
def TGood (t : Tb) (k r p : Int) : Prop := 1 ≤ t.mv.length ∧ t.mv.length ≤ 4096 ∧ t.go.length = t.mv.length ∧ ∀ s, s < t.mv.length → rowOk t k r p s
/-- What the checks of a table answer. -/
noncomputable def checkF (t : Tb) (k r p : Int) : Int := if dec (k < 2 ∨ r < 0 ∨ p < 0) then 1 else if dec (TGood t k r p) then 0 else 170
theorem checkF_arg {t : Tb} {k r p : Int} (h : k < 2 ∨ r < 0 ∨ p < 0) : checkF t k r p = 1 := by rw [checkF, dec_t h]; rfl
theorem checkF_bad {t : Tb} {k r p : Int} (h : ¬ (k < 2 ∨ r < 0 ∨ p < 0)) (h2 : ¬ TGood t k r p) : checkF t k r p = 170 := by rw [checkF, dec_f h, dec_f h2]; rfl
theorem checkF_ok {t : Tb} {k r p : Int} (h : ¬ (k < 2 ∨ r < 0 ∨ p < 0)) (h2 : TGood t k r p) : checkF t k r p = 0 := by rw [checkF, dec_f h, dec_t h2]; rfl
end Go.Proofs.YtgdemplcpcacaaaFx

/-! Rows of rows of the call's own. -/
namespace Go.Proofs.YtgdemplcpcacaaaFx
open Go Go.RowKit
/-- L' is picked out of L. -/
inductive Pm : List Ch → List Ch → Prop
  | nil (L : List Ch) : Pm L []
  | cons {L L1 L' : List Ch} {A : Ch} (D : Del L A L1) (h : Pm L1 L') : Pm L (A :: L')
theorem HL.pm {L L' : List Ch} (h : Pm L L') : ∀ {w : World} {S : Nat → Prop}, HL L w S → HL L' w S := by
  induction h with
  | nil L => exact fun _ => trivial
  | cons D h ih =>
    intro w S hl
    obtain ⟨S1, S2, h1, h2, h3, h4, h5⟩ := HL.del D hl
    exact ⟨S1, S2, h1, h2, h3, h4, ih h5⟩
theorem Holds.pm {W0 w : World} {L L' : List Ch} (H : Holds W0 L w) (h : Pm L L') : Holds W0 L' w := ⟨H.old, HL.pm h H.hl⟩
theorem HL.unapp : ∀ {L1 L2 : List Ch} {w : World} {S : Nat → Prop}, HL (L1 ++ L2) w S → ∃ S1 S2 : Nat → Prop, (∀ k, S1 k → S k) ∧ (∀ k, S2 k → S k) ∧ (∀ k, S1 k → ¬ S2 k) ∧ HL L1 w S1 ∧ HL L2 w S2
  | [], L2, w, S, h => ⟨fun _ => False, S, fun _ hk => hk.elim, fun _ hk => hk, fun _ hk => hk.elim, trivial, h⟩
  | A :: L1, L2, w, S, ⟨S1, S2, h1, h2, h3, h4, h5⟩ => by
    obtain ⟨T1, T2, g1, g2, g3, g4, g5⟩ := HL.unapp h5
    exact ⟨fun k => S1 k ∨ T1 k, T2, fun k hk => hk.elim (h1 k) (fun h => h2 k (g1 k h)), fun k hk => h2 k (g2 k hk), fun k hk hk2 => hk.elim (fun h => h3 k h (g2 k hk2)) (fun h => g3 k h hk2), ⟨S1, T1, fun k hk => .inl hk, fun k hk => .inr hk, fun k hk hk2 => h3 k hk (g1 k hk2), h4, g4⟩, g5⟩
/-- The inner rows. -/
def zips {α : Type} (f : Fk α) (e : TypeId) : List Value → List (List α) → List Ch
  | v :: vs, xs :: xss => Row f e v xs :: zips f e vs xss
  | _, _ => []
theorem zips_app {α : Type} (f : Fk α) (e : TypeId) : ∀ (vs vs' : List Value) (xss xss' : List (List α)), vs.length = xss.length → zips f e (vs ++ vs') (xss ++ xss') = zips f e vs xss ++ zips f e vs' xss'
  | [], _, [], _, _ => rfl
  | [], _, _ :: _, _, h => by simp at h
  | _ :: _, _, [], _, h => by simp at h
  | v :: vs, vs', xs :: xss, xss', h => by
    show _ :: zips f e (vs ++ vs') (xss ++ xss') = _ :: (zips f e vs xss ++ zips f e vs' xss')
    rw [zips_app f e vs vs' xss xss' (by simpa using h)]
/-- Rows of rows: e the rows' type, e2 their elements'. -/
def RR {α : Type} (f : Fk α) (e e2 : TypeId) (v : Value) (xss : List (List α)) : Ch where
  p := fun w S => ∃ vs : List Value, vs.length = xss.length ∧ HL (Raw e 1 v xss.length vs :: zips f e2 vs xss) w S
  st := fun h ⟨vs, hl, hp⟩ => ⟨vs, hl, HL.st h hp⟩
section
variable {α : Type} {f : Fk α} {w w' W0 : World} {A : Option Addr} {xs : List α} {xss : List (List α)} {L L1 L2 L' : List Ch} {e e2 n c : Nat} {u v : Value}
theorem Holds.opened {C : Ch} {Ls : List Ch} (H : Holds W0 (C :: L) w) (h : ∀ S, C.p w S → HL Ls w S) : Holds W0 (Ls ++ L) w := by
  obtain ⟨ho, S1, S2, h1, h2, h3, h4, h5⟩ := H
  exact ⟨ho, HL.app h1 h2 h3 (h S1 h4) h5⟩
theorem Holds.closed {C : Ch} {Ls : List Ch} (H : Holds W0 (Ls ++ L) w) (h : ∀ S, HL Ls w S → C.p w S) : Holds W0 (C :: L) w := by
  obtain ⟨ho, hl⟩ := H
  obtain ⟨S1, S2, h1, h2, h3, h4, h5⟩ := HL.unapp hl
  exact ⟨ho, S1, S2, h1, h2, h3, h S1 h4, h5⟩
/-- A row of rows, opened. -/
theorem Holds.rrOpen (H : Holds W0 (RR f e e2 v xss :: L) w) : ∃ vs : List Value, vs.length = xss.length ∧ Holds W0 ((Raw e 1 v xss.length vs :: zips f e2 vs xss) ++ L) w := by
  obtain ⟨ho, S1, S2, h1, h2, h3, ⟨vs, hv, h4⟩, h5⟩ := H
  exact ⟨vs, hv, ho, HL.app h1 h2 h3 h4 h5⟩
theorem Holds.rrClose {vs : List Value} (hv : vs.length = xss.length) (H : Holds W0 ((Raw e 1 v xss.length vs :: zips f e2 vs xss) ++ L) w) : Holds W0 (RR f e e2 v xss :: L) w := H.closed fun S h => ⟨vs, hv, h⟩
theorem Holds.rrNil (H : Holds W0 L w) (f : Fk α) (e e2 : Nat) : Holds W0 (RR f e e2 (.slice none 0 0) [] :: L) w := Holds.rrClose (vs := []) rfl (H.nilrow e 1)
theorem zips_rd {w : World} (f : Fk α) (e : TypeId) : ∀ (vs : List Value) (xss : List (List α)) (S : Nat → Prop), vs.length = xss.length → HL (zips f e vs xss) w S → ∀ (j : Nat) (xs : List α), xss[j]? = some xs → ∃ (A : Option Addr) (c : Nat), vs[j]? = some (Value.slice A xs.length c) ∧ xs.length ≤ c ∧ xs.length ≤ maxLen ∧ Rd f.kn w A xs
  | [], [], _, _, _, j, xs, hx => by simp at hx
  | [], _ :: _, _, h, _, _, _, _ => by simp at h
  | _ :: _, [], _, h, _, _, _, _ => by simp at h
  | v :: vs, ys :: xss, S, h, hl, j, xs, hx => by
    obtain ⟨S1, S2, _, _, _, h4, h5⟩ := hl
    cases j with
    | zero =>
      simp only [List.getElem?_cons_zero, Option.some.injEq] at hx
      subst hx
      obtain ⟨A, c, rfl, hn, hA, hc⟩ := own_slice h4.2
      exact ⟨A, c, rfl, hn, own_max h4.2, (rd_of_own h4.2).2.2⟩
    | succ j => exact zips_rd f e vs xss S2 (by simpa using h) h5 j xs (by simpa using hx)
/-- As it is read. -/
theorem Holds.rr (H : Holds W0 L w) (U : Upd L (RR f e e2 v xss) (RR f e e2 v xss) L) : ∃ A c, v = .slice A xss.length c ∧ xss.length ≤ c ∧ xss.length ≤ maxLen ∧ (∀ xs ∈ xss, xs.length ≤ maxLen) ∧ Rd f.kn.sl w A xss := by
  obtain ⟨S, hS, vs, hv, S1, S2, h1, h2, h3, h4, h5⟩ := H.get U
  obtain ⟨A, c, rfl, hn, hA, hc⟩ := own_slice h4.2
  have hz := zips_rd f e2 vs xss S2 hv h5
  refine ⟨A, c, rfl, hn, own_max h4.2, fun xs hx => ?_, hA, fun j xs hx => ?_⟩
  · obtain ⟨j, hj, rfl⟩ := List.mem_iff_getElem.1 hx
    obtain ⟨_, _, _, _, h, _⟩ := hz j _ (List.getElem?_eq_getElem hj)
    exact h
  · obtain ⟨B, c', h6, h7, _, h8⟩ := hz j xs hx
    refine ⟨_, ⟨B, c', rfl, h7, h8⟩, fun i u hu => ?_⟩
    cases i with
    | zero =>
      simp only [List.getElem?_cons_zero, Option.some.injEq] at hu
      subst hu
      have := hc j _ h6
      show w.cell? ((adr A).add (j * 1 + 0)) = _
      rwa [Nat.mul_one, Nat.add_zero]
    | succ i => simp at hu
end
section
variable {α : Type} {f : Fk α} {P : Program} {n : Nat} {Q : Post} {l : Fr} {w W0 : World} {L L1 L2 : List Ch} {ops : Array Oper} {rest : List Oper} {d : Nat} {x sx : Operand} {ty t e e2 : TypeId} {pos : String} {af : Array Edge} {v u : Value} {xs : List α} {xss : List (List α)}
/-- append(rows, row). -/
theorem wl_appRR {z : Value} {bytes b : Nat} (H : Holds W0 L w) (D1 : Del L (Row f e2 u xs) L1) (D2 : Del L1 (RR f e e2 v xss) L2) (hcell : w.cell? ⟨b, 0, none⟩ = some u) (hn : Nat.ble (d + 1) n = true)
    (ht : P.underlying t = some (.slice e)) (hi : (P.info? e).map (fun i => (i.zero, i.size, i.bytes)) = some (some z, 1, bytes)) (hz : z.cells.size = 1)
    (hs : ev l sx = some v) (hx : ev l x = some (.slice (some ⟨b, 0, none⟩) 1 1)) (hb : (xss.length + 1) * bytes ≤ 140737488355328) (hb0 : 0 < bytes)
    (h : ∀ A c w', Holds W0 (RR f e e2 (.slice A (xss ++ [xs]).length c) (xss ++ [xs]) :: L2) w' → w.heap.size ≤ w'.heap.size → wl P n ops rest Q ((d, .slice A (xss ++ [xs]).length c) :: l) w') : wl P n ops (⟨some d, .call { callee := .builtin .append, args := #[sx, x], argTypes := #[t, t] }, ty, pos, af, none⟩ :: rest) Q l w := by
  have H1 : Holds W0 (RR f e e2 v xss :: Row f e2 u xs :: L2) w := (H.turn D1).turn (.there _ D2)
  obtain ⟨vs, hv, H2⟩ := H1.rrOpen
  have hu1 : u.oneCell' = true := by
    obtain ⟨_, _, ho⟩ := H1.get (A := Row f e2 u xs) (.there _ (.here _ _ _))
    obtain ⟨A, c, rfl, _⟩ := own_slice ho.2
    rfl
  refine wl_append (L' := fun v' => (Raw e 1 v' (xss.length + 1) (vs ++ [u]) :: zips f e2 vs xss) ++ Row f e2 u xs :: L2) (cs := vs) (news := [u]) H2 (fun v' => .here _ _ _) hn ht hi hz (by omega) hs hx (fun _ => rfl) rfl (fun j u' hu => ?_) (fun u' hu => by rw [List.mem_singleton.1 hu]; exact hu1) hb hb0 (fun v' w' H' hsz => ?_)
  · cases j with
    | zero =>
      simp only [List.getElem?_cons_zero, Option.some.injEq] at hu
      subst hu
      exact hcell
    | succ j => simp at hu
  · have h3 : Holds W0 (RR f e e2 v' (xss ++ [xs]) :: L2) w' := by
      refine Holds.rrClose (vs := vs ++ [u]) (by simp [hv]) ?_
      rw [zips_app f e2 vs [u] xss [xs] hv, show (xss ++ [xs]).length = xss.length + 1 by simp]
      have : (Raw e 1 v' (xss.length + 1) (vs ++ [u]) :: (zips f e2 vs xss ++ zips f e2 [u] [xs])) ++ L2 = (Raw e 1 v' (xss.length + 1) (vs ++ [u]) :: zips f e2 vs xss) ++ Row f e2 u xs :: L2 := by
        simp [zips]
      rw [this]
      exact H'
    obtain ⟨A, c, rfl, _⟩ := h3.rr (.here _ _ _)
    exact h A c w' h3 hsz
end
end Go.Proofs.YtgdemplcpcacaaaFx

/-! A region that draws its order: first what yields the same wherever S holds, then the rest in the text's order. -/
namespace Go.Proofs.YtgdemplcpcacaaaFx
open Go Go.RowKit
section
variable {P : Program} {ops : Array Oper} {Q : Exit → Act → World → Prop} {S : World → Prop} {m m2 : Nat}
def allB (ops : Array Oper) (m j : Nat) : Bool := (List.range m).all fun i => match ops[j]? with
  | some o => o.after.any fun e => Region.binds .any e && e.on == i
  | none => false
/-- Whatever order comes, S holds behind each operation that does not wait for all the heads. -/
def wpK (P : Program) (ops : Array Oper) (Q : Exit → Act → World → Prop) (S : World → Prop) (m : Nat) : Nat → Array Bool → Act → World → Prop
  | 0, listed, a, w => Region.ready .any ops listed = [] ∧ Q .normal a w
  | g + 1, listed, a, w => (Region.ready .any ops listed = [] → Q .normal a w) ∧
    ∀ i ∈ Region.ready .any ops listed, wpOp P ops Q i (fun a' w' => (allB ops m i = true ∨ S w') ∧ wpK P ops Q S m g (listed.setIfInBounds i true) a' w') a w
theorem wpK_any : ∀ (g : Nat) (listed : Array Bool) (a : Act) (w : World), wpK P ops Q S m g listed a w → wpAny P .any ops Q g listed a w
  | 0, _, _, _, h => h
  | g + 1, _, _, _, h => ⟨h.1, fun i hi => wpOp_mono (fun a' w' h' => wpK_any g _ a' w' h'.2) (h.2 i hi)⟩
theorem wpK_first {i : Nat} {oi : Oper} {v : Value} (him : i < m) (hi : ops[i]? = some oi) (hsel : ∀ (j : Nat) (o : Oper) cs b, ops[j]? = some o → o.op ≠ .select cs b) (hQ : ∀ c a w, Q (.panic c) (a.put oi.dst v) w → Q (.panic c) a w) (hS0 : allB ops m i = true ∨ True) :
    ∀ (g : Nat) (listed : Array Bool) (a : Act) (w : World), (∀ j oj, ops[j]? = some oj → j ≠ i → listed.getD j true = false → (∀ e ∈ oj.after, Region.binds .any e = true → e.on ≠ i) → oi.apart ops oj = true) →
      i ∈ Region.ready .any ops listed → YieldsIf P ops S oi v a → S w → wpK P ops Q S m g (listed.setIfInBounds i true) (a.put oi.dst v) w → wpK P ops Q S m (g + 1) listed a w := by
  intro g
  induction g with
  | zero =>
    intro listed a w _ hr hy hS H
    refine ⟨fun h => (by rw [h] at hr; cases hr), fun j hj => ?_⟩
    rcases Nat.decEq j i with hji | hji
    · have := ready_mono hj hji
      rw [H.1] at this
      cases this
    · subst hji
      exact hy.wpOp hi hS ⟨.inr hS, H⟩
  | succ g ih =>
    intro listed a w hfree hr hy hS H
    refine ⟨fun h => (by rw [h] at hr; cases hr), fun j hj => ?_⟩
    rcases Nat.decEq j i with hji | hji
    · obtain ⟨hjun, oj, hoj, hall⟩ := mem_ready.1 hj
      have hnot : ∀ e ∈ oj.after, Region.binds .any e = true → e.on ≠ i := fun e he hb heq => by
        have h1 := hall e he hb
        have h0 := (mem_ready.1 hr).1
        rw [heq] at h1
        rcases Nat.lt_or_ge i listed.size with h' | h'
        · simp [h'] at h0 h1; rw [h0] at h1; cases h1
        · simp [Array.getElem?_eq_none h'] at h1
      have hna : ¬ allB ops m j = true := fun hb => by
        unfold allB at hb
        have := List.all_eq_true.1 hb i (List.mem_range.2 him)
        rw [hoj] at this
        obtain ⟨e, he, hbe⟩ := Array.any_eq_true'.1 this
        rw [Bool.and_eq_true] at hbe
        exact hnot e he hbe.1 (by simpa using hbe.2)
      have h2 := wpOp_putIf hoj (hfree j oj hoj hji hjun hnot) (fun cs b => hsel i oi cs b hi) (fun cs b => hsel j oj cs b hoj) hQ hy (H.2 j (ready_mono hj hji))
      refine wpOp_mono (fun a' w' h3 => ?_) h2
      have hS' : S w' := h3.2.1.resolve_left hna
      refine ⟨.inr hS', ih _ a' w' (fun k ok hk hki hun hno => hfree k ok hk hki ?_ hno) (ready_mono hr (Ne.symm hji)) h3.1 hS' ?_⟩
      · rcases Nat.decEq j k with hjk | hjk
        · rw [getD_set_ne true hjk] at hun; exact hun
        · subst hjk; exact hjun
      · rw [Array.setIfInBounds_comm _ _ hji]
        exact h3.2.2
    · subst hji
      exact hy.wpOp hi hS ⟨.inr hS, H⟩
/-- May the region be walked so: heads before m, from m2 on all wait for all the heads. -/
def heldFrom (ops : Array Oper) (m m2 : Nat) : Nat → Nat → Array Bool → Bool
  | 0, _, listed => (Region.ready .any ops listed).isEmpty
  | g + 1, k, listed => (if Nat.blt k m then (Region.ready .any ops listed).contains k && Region.free .any ops listed k else (Region.ready .any ops listed == [k]) && (Nat.blt k m2 || allB ops m k)) && heldFrom ops m m2 g (k + 1) (listed.setIfInBounds k true)
def heldB (ops : Array Oper) (m m2 : Nat) : Bool := Region.noSelect ops && heldFrom ops m m2 ops.size 0 (Array.replicate ops.size false)
/-- The walk. -/
def wpH (P : Program) (ops : Array Oper) (Q : Exit → Act → World → Prop) (S : World → Prop) (m m2 : Nat) : Nat → List Oper → Act → World → Prop
  | _, [], a, w => Q .normal a w
  | k, o :: rest, a, w => if Nat.blt k m = true then S w ∧ (∃ v, YieldsIf P ops S o v a ∧ wpH P ops Q S m m2 (k + 1) rest (a.put o.dst v) w)
    else if Region.wanted o (yielded ops a.tmps) then o.wp P a w (fun a' w' => (Nat.blt k m2 = true → S w') ∧ wpH P ops Q S m m2 (k + 1) rest a' w') Q ∨ (o.asks P a w ∧ LetsOut Q)
      else (Nat.blt k m2 = true → S w) ∧ wpH P ops Q S m m2 (k + 1) rest (a.put o.dst undef) w
theorem wpK_of (hs : Region.noSelect ops = true) (hQ : ∀ c a w, Q (.panic c) a w → False) : ∀ (l : List Oper) (k : Nat) (listed : Array Bool) (a : Act) (w : World), (∀ j, l[j]? = ops[k + j]?) →
    heldFrom ops m m2 l.length k listed = true → wpH P ops Q S m m2 k l a w → wpK P ops Q S m l.length listed a w
  | [], _, _, _, _, _, hB, h => ⟨by simpa [heldFrom] using hB, h⟩
  | o :: l, k, listed, a, w, hl, hB, h => by
    have h0 : ops[k]? = some o := by simpa using (hl 0).symm
    have hl' : ∀ j, l[j]? = ops[k + 1 + j]? := fun j => by have := hl (j + 1); simpa [Nat.add_assoc, Nat.add_comm 1 j] using this
    simp only [List.length_cons, heldFrom, Bool.and_eq_true] at hB
    obtain ⟨hB1, hB2⟩ := hB
    unfold wpH at h
    by_cases hk : Nat.blt k m = true
    · rw [if_pos hk] at h hB1
      obtain ⟨hS, v, hy, hK⟩ := h
      rw [Bool.and_eq_true] at hB1
      exact wpK_first (by simpa using hk) h0 (Region.noSelect_spec hs) (fun c a w hp => (hQ c _ w hp).elim) (.inr trivial) l.length listed a w (Region.free_spec h0 hB1.2) (by simpa using hB1.1) hy hS (wpK_of hs hQ l (k + 1) _ _ w hl' hB2 hK)
    · rw [if_neg hk] at h hB1
      rw [Bool.and_eq_true] at hB1
      have hr : Region.ready .any ops listed = [k] := by simpa using hB1.1
      have hall : allB ops m k = true ∨ Nat.blt k m2 = true := by
        have := hB1.2
        rw [Bool.or_eq_true] at this
        exact this.symm
      refine ⟨fun h1 => (by rw [hr] at h1; cases h1), fun j hj => ?_⟩
      rw [hr, List.mem_singleton] at hj
      subst hj
      unfold wpOp
      simp only [h0]
      by_cases hw : Region.wanted o (yielded ops a.tmps) = true
      · rw [if_pos hw] at h ⊢
        exact h.imp (Oper.wp_mono fun a' w' hh => ⟨hall.imp id (fun h2 => hh.1 h2), wpK_of hs hQ l (j + 1) _ _ w' hl' hB2 hh.2⟩) id
      · rw [if_neg hw] at h ⊢
        exact ⟨hall.imp id (fun h2 => h.1 h2), wpK_of hs hQ l (j + 1) _ _ w hl' hB2 h.2⟩
end
section
variable {P : Program} {n : Nat} {Q : Post} {l : Fr} {w : World} {ops : Array Oper} {rest : List Oper} {o : Oper} {S : World → Prop} {m m2 k d : Nat} {v : Value}
/-- The heads. -/
def wh (P : Program) (n : Nat) (ops : Array Oper) (S : World → Prop) (Q : Post) (m m2 k : Nat) (rest : List Oper) (l : Fr) (w : World) : Prop := ∀ a, Ag n l a → wpH P ops (up n Q) S m m2 k rest a w
theorem wc_held {id : Nat} {ol : List Oper} (m m2 : Nat) (S : World → Prop) (hm : P.follows .mixedOrders = true) (hB : heldB ol.toArray m m2 = true) (hQ : ∀ c l w, Q (.panic c) l w → False) (h : wh P n ol.toArray S Q m m2 0 ol l w.drew) : wc P n (.region id ol.toArray true) Q l w := fun a ha => by
  simp only [heldB, Bool.and_eq_true] at hB
  refine wp_region_any hm (wpK_any _ _ _ _ (wpK_of (S := S) (m := m) (m2 := m2) hB.1 (fun c a w ⟨l, _, hq⟩ => hQ c l w hq) ol.toArray.toList 0 _ a _ (by simp) (by simpa using hB.2) ?_))
  simpa using h a ha
theorem tn {K : Fr → World → Prop} (h : K l w) : thenQ K Q .normal l w := h
theorem wh_nil (h : Q .normal l w) : wh P n ops S Q m m2 k [] l w := fun a ha => ⟨l, ha, h⟩
theorem wh_v (hk : Nat.blt k m = true) (hS : S w) (hd : o.dst = some d) (hg : o.guard = none) (hn : Nat.ble (d + 1) n = true) (hv : ∀ W, S W → Vs P n l o W v) (h : wh P n ops S Q m m2 (k + 1) rest ((d, v) :: l) w) : wh P n ops S Q m m2 k (o :: rest) l w := fun a ha => by
  unfold wpH
  rw [if_pos hk]
  refine ⟨hS, v, .inl ⟨by simp [Region.wanted, hg], fun W hW => hv W hW a ha⟩, ?_⟩
  rw [hd]
  exact h _ (ha.put hn v)
theorem wp_swapQ {a : Act} {w : World} {K : Act → World → Prop} {Q1 Q2 : Exit → Act → World → Prop} (hp : ∀ c a w, Q1 (.panic c) a w → Q2 (.panic c) a w) (ho : LetsOut Q1 → LetsOut Q2) (h : o.wp P a w K Q1) : o.wp P a w K Q2 := by
  unfold Oper.wp at *
  generalize (execOp a.eval o).run P w = r at *
  cases r with
  | ok nx w' =>
    cases nx <;> simp only [Oper.upon] at h ⊢ <;>
      first
        | exact h
        | exact Calls.mono h (fun e w'' he => by cases e <;> first | exact he | exact hp _ _ _ he | exact ho he)
        | exact Rows.mono h (fun _ _ he => he)
  | halt x w' => cases x <;> simp only [Oper.upon] at h ⊢ <;> first | exact h | exact hp _ _ _ h
theorem wh_t (hk : Nat.blt k m = false) (h : wl P n ops [o] (thenQ (fun l' w' => (Nat.blt k m2 = true → S w') ∧ wh P n ops S Q m m2 (k + 1) rest l' w') Q) l w) : wh P n ops S Q m m2 k (o :: rest) l w := fun a ha => by
  have h1 := h a ha
  unfold wpH
  rw [if_neg (by rw [hk]; simp)]
  unfold wpList at h1
  by_cases hw : Region.wanted o (yielded ops a.tmps) = true
  · rw [if_pos hw] at h1 ⊢
    have hlo : LetsOut (up n (thenQ (fun l' w' => (Nat.blt k m2 = true → S w') ∧ wh P n ops S Q m m2 (k + 1) rest l' w') Q)) → LetsOut (up n Q) := fun ⟨a, w, hh⟩ => ⟨a, w, hh⟩
    refine h1.imp (fun h => ?_) (fun h => ⟨h.1, hlo h.2⟩)
    refine wp_swapQ (fun c a w hp => hp) hlo (Oper.wp_mono (fun a' w' hh => ?_) h)
    obtain ⟨l', hl, hS, hr⟩ := hh
    exact ⟨hS, hr a' hl⟩
  · rw [if_neg hw] at h1 ⊢
    obtain ⟨l', hl, hS, hr⟩ := h1
    exact ⟨hS, hr _ hl⟩
theorem oldN {cs cs' : List Value} {w : World} {b off k : Nat} (h : ∀ j v, cs[j]? = some v → w.cell? ⟨b, j, none⟩ = some v) (hcut : (cs.drop off).take k = cs') : ∀ j v, cs'[j]? = some v → w.cell? ((⟨b, off, none⟩ : Addr).add j) = some v := fun j v hv => by
  rw [Addr.add_lit]
  exact h _ v (cut_eq hcut j v hv)
theorem v_fn {fn : Fn} {d : Nat} {ty : TypeId} {pos : String} {af : Array Edge} {fs cs : List Operand} {vf vc : List Value} (hf : evs l fs = some vf) (hc : evs l cs = some vc) : Vs P n l ⟨some d, .makeFunc fn fs.toArray cs.toArray, ty, pos, af, none⟩ w (.func fn vf.toArray vc.toArray) :=
  v_func (fun a ha => by rw [List.map_toArray, ha.evals hf]) (fun a ha => by rw [List.map_toArray, ha.evals hc])
end
end Go.Proofs.YtgdemplcpcacaaaFx

/-! Trees that are read: a struct whose last field are its kids. -/
namespace Go.Proofs.YtgdemplcpcacaaaFx
open Go Go.RowKit
inductive Tr (α : Type) where
  | mk (x : α) (kids : List (Tr α))
def Tr.x {α : Type} : Tr α → α
  | .mk x _ => x
def Tr.kids {α : Type} : Tr α → List (Tr α)
  | .mk _ k => k
mutual
def Tr.K {α : Type} (f : Fk α) (w : World) : Tr α → List Value → Prop
  | .mk x kids, cs => ∃ A c, cs = f.enc x ++ [.slice A kids.length c] ∧ kids.length ≤ c ∧ (0 < kids.length → A = some (adr A)) ∧ Tr.Ks f w kids (adr A) 0
def Tr.Ks {α : Type} (f : Fk α) (w : World) : List (Tr α) → Addr → Nat → Prop
  | [], _, _ => True
  | t :: r, p, j => (∃ cs, Tr.K f w t cs ∧ ∀ i u, cs[i]? = some u → w.cell? (p.add (j * (f.sz + 1) + i)) = some u) ∧ Tr.Ks f w r p (j + 1)
end
theorem Tr.ind {α : Type} {p : Tr α → Prop} (h : ∀ x kids, (∀ t ∈ kids, p t) → p (.mk x kids)) : ∀ t, p t
  | .mk x kids => h x kids fun t _ => Tr.ind h t
section
variable {α : Type} {f : Fk α} {w w' : World}
mutual
theorem Tr.K.st (hb : Below w.heap.size w w') : ∀ (t : Tr α) (cs : List Value), Tr.K f w t cs → Tr.K f w' t cs
  | .mk x kids, cs, h => by
    unfold Tr.K at h ⊢
    obtain ⟨A, c, h1, h2, h3, h4⟩ := h
    exact ⟨A, c, h1, h2, h3, Tr.Ks.st hb kids (adr A) 0 h4⟩
theorem Tr.Ks.st (hb : Below w.heap.size w w') : ∀ (ts : List (Tr α)) (p : Addr) (j : Nat), Tr.Ks f w ts p j → Tr.Ks f w' ts p j
  | [], _, _, _ => by unfold Tr.Ks; trivial
  | t :: r, p, j, h => by
    unfold Tr.Ks at h ⊢
    obtain ⟨⟨cs, h1, h2⟩, h3⟩ := h
    exact ⟨⟨cs, Tr.K.st hb t cs h1, fun i u hu => cell_below hb (h2 i u hu)⟩, Tr.Ks.st hb r p (j + 1) h3⟩
end
theorem Tr.K.form {t : Tr α} {cs : List Value} (h : Tr.K f w t cs) : ∃ A c, cs = f.enc t.x ++ [.slice A t.kids.length c] ∧ t.kids.length ≤ c ∧ (0 < t.kids.length → A = some (adr A)) ∧ Tr.Ks f w t.kids (adr A) 0 := by
  cases t with
  | mk x kids => unfold Tr.K at h; exact h
def kTr (f : Fk α) : Kn (Tr α) where
  sz := f.sz + 1
  K := fun w t cs => Tr.K f w t cs
  len := fun h => by
    obtain ⟨A, c, rfl, _⟩ := h.form
    rw [List.length_append, f.len]
    rfl
  one := fun h u hu => by
    obtain ⟨A, c, rfl, _⟩ := h.form
    rcases List.mem_append.1 hu with h1 | h1
    · exact f.one _ u h1
    · rw [List.mem_singleton.1 h1]; rfl
  st := fun hb h => Tr.K.st hb _ _ h
theorem Tr.Ks.el : ∀ (ts : List (Tr α)) (p : Addr) (j0 : Nat), Tr.Ks f w ts p j0 → ∀ j t, ts[j]? = some t → ∃ cs, Tr.K f w t cs ∧ ∀ i u, cs[i]? = some u → w.cell? (p.add ((j0 + j) * (f.sz + 1) + i)) = some u
  | [], _, _, _, j, t, h => by simp at h
  | t :: r, p, j0, h, j, t', ht => by
    unfold Tr.Ks at h
    obtain ⟨h1, h2⟩ := h
    cases j with
    | zero =>
      simp only [List.getElem?_cons_zero, Option.some.injEq] at ht
      subst ht
      exact h1
    | succ j =>
      obtain ⟨cs, h3, h4⟩ := Tr.Ks.el r p (j0 + 1) h2 j t' (by simpa using ht)
      exact ⟨cs, h3, fun i u hu => by rw [show j0 + (j + 1) = j0 + 1 + j by omega]; exact h4 i u hu⟩
theorem Tr.Ks.of : ∀ (ts : List (Tr α)) (p : Addr) (j0 : Nat), (∀ j t, ts[j]? = some t → ∃ cs, Tr.K f w t cs ∧ ∀ i u, cs[i]? = some u → w.cell? (p.add ((j0 + j) * (f.sz + 1) + i)) = some u) → Tr.Ks f w ts p j0
  | [], _, _, _ => by unfold Tr.Ks; trivial
  | t :: r, p, j0, h => by
    unfold Tr.Ks
    exact ⟨h 0 t rfl, Tr.Ks.of r p (j0 + 1) fun j t' ht => by
      obtain ⟨cs, h1, h2⟩ := h (j + 1) t' (by simpa using ht)
      exact ⟨cs, h1, fun i u hu => by rw [show j0 + 1 + j = j0 + (j + 1) by omega]; exact h2 i u hu⟩⟩
/-- A tree's cells, its kids a slice that is read. -/
theorem Tr.K.open {t : Tr α} {cs : List Value} (h : Tr.K f w t cs) : ∃ A c, cs = f.enc t.x ++ [.slice A t.kids.length c] ∧ t.kids.length ≤ c ∧ Rd (kTr f) w A t.kids := by
  obtain ⟨A, c, h1, h2, h3, h4⟩ := h.form
  refine ⟨A, c, h1, h2, h3, fun j t' ht => ?_⟩
  obtain ⟨cs', h5, h6⟩ := Tr.Ks.el _ _ _ h4 j t' ht
  exact ⟨cs', h5, fun i u hu => by have := h6 i u hu; rwa [Nat.zero_add] at this⟩
theorem Tr.K.mk {x : α} {kids : List (Tr α)} {A : Option Addr} {c : Nat} (h : kids.length ≤ c) (hr : Rd (kTr f) w A kids) : Tr.K f w (.mk x kids) (f.enc x ++ [.slice A kids.length c]) := by
  unfold Tr.K
  refine ⟨A, c, rfl, h, hr.ad, Tr.Ks.of _ _ _ fun j t ht => ?_⟩
  obtain ⟨cs, h1, h2⟩ := hr.el j t ht
  exact ⟨cs, h1, fun i u hu => by rw [Nat.zero_add]; exact h2 i u hu⟩
/-- One of a row of trees. -/
theorem Rd.atTr {A : Option Addr} {ts : List (Tr α)} (h : Rd (kTr f) w A ts) (z : Tr α) {i : Nat} (hi : i < ts.length) : ∃ B c, (∀ k u, (f.enc (ts.getD i z).x ++ [.slice B (ts.getD i z).kids.length c])[k]? = some u → w.cell? (((adr A).add ((i : Int).toNat * (f.sz + 1))).add k) = some u) ∧ (ts.getD i z).kids.length ≤ c ∧ Rd (kTr f) w B (ts.getD i z).kids := by
  obtain ⟨cs, hK, hc⟩ := h.get z (i := (i : Int)) (by omega) (by omega)
  rw [Int.toNat_natCast] at hK hc ⊢
  obtain ⟨B, c, rfl, h2, h3⟩ := Tr.K.open hK
  exact ⟨B, c, hc, h2, h3⟩
end
mutual
/-- So many nodes. -/
def Tr.cnt {α : Type} : Tr α → Nat
  | .mk _ kids => 1 + Tr.cnts kids
def Tr.cnts {α : Type} : List (Tr α) → Nat
  | [] => 0
  | t :: r => t.cnt + Tr.cnts r
end
theorem Tr.cnt_eq {α : Type} (t : Tr α) : t.cnt = 1 + Tr.cnts t.kids := by cases t; rfl
theorem Tr.cnts_succ {α : Type} (z : Tr α) : ∀ (ts : List (Tr α)) (i : Nat), i < ts.length → Tr.cnts (ts.take (i + 1)) = Tr.cnts (ts.take i) + (ts.getD i z).cnt
  | [], i, h => by simp at h
  | t :: r, 0, _ => by simp [Tr.cnts]
  | t :: r, i + 1, h => by
    have := Tr.cnts_succ z r i (by simpa using h)
    rw [List.take_succ_cons, List.take_succ_cons, Tr.cnts, Tr.cnts, this, List.getD_cons_succ]
    omega
theorem Tr.cnts_take {α : Type} : ∀ (ts : List (Tr α)) (i : Nat), Tr.cnts (ts.take i) ≤ Tr.cnts ts
  | [], i => by simp [Tr.cnts]
  | t :: r, 0 => by simp [Tr.cnts]
  | t :: r, i + 1 => by
    have := Tr.cnts_take r i
    rw [List.take_succ_cons, Tr.cnts, Tr.cnts]
    omega
theorem Tr.cnts_len {α : Type} : ∀ (ts : List (Tr α)), ts.length ≤ Tr.cnts ts
  | [] => Nat.le_refl _
  | t :: r => by
    have h1 := Tr.cnts_len r
    have h2 := Tr.cnt_eq t
    rw [Tr.cnts, List.length_cons]
    omega
end Go.Proofs.YtgdemplcpcacaaaFx

/-! Grammars as plain data. -/
namespace Go.Proofs.YtgdemplcpcacaaaFx
open Go Go.RowKit
/-- A text's byte. -/
def byt (s : ByteArray) (i : Nat) : Int := ((s.data.getD i 0).toNat : Int)
theorem byt_u8 (s : ByteArray) (i : Nat) : 0 ≤ byt s i ∧ byt s i < 256 := ⟨Int.natCast_nonneg _, by
  have := (s.data.getD i 0).toNat_lt
  unfold byt
  omega⟩
theorem byt_at {s : ByteArray} {i : Nat} (h : i < s.size) : ((s[i].toNat : Nat) : Int) = byt s i := by
  unfold byt
  have h' : i < s.data.size := h
  rw [Array.getD_eq_getD_getElem?, Array.getElem?_eq_getElem h']
  rfl
section
variable {P : Program} {n : Nat} {l : Fr} {w : World} {d : Nat} {x y : Operand} {ty t : TypeId} {pos : String} {af : Array Edge}
theorem v_idxs {s : ByteArray} {i : Nat} {k : IntKind} (ht : P.underlying t = some .string) (hx : ev l x = some (.string s)) (hy : ev l y = some (.int k (i : Int))) (h1 : i < s.size) :
    Vs P n l ⟨some d, .index t x y, ty, pos, af, none⟩ w (.int .u8 (byt s i)) := by
  have h := v_indexs (P := P) (n := n) (w := w) (ty := ty) (pos := pos) (af := af) (dst := some d) (gd := none) ht hx hy (by omega) (by rw [Int.toNat_natCast]; exact h1)
  simp only [Int.toNat_natCast] at h
  rw [byt_at h1] at h
  exact h
theorem ba_size0 (s : ByteArray) : s = ⟨#[]⟩ ↔ s.size = 0 := ⟨fun h => by rw [h]; rfl, fun h => by
  cases s with
  | mk d =>
    have h' : d.size = 0 := h
    rw [Array.eq_empty_of_size_eq_zero h']⟩
variable {t2 : TypeId}
theorem v_eql0 {s : ByteArray} (hx : ev l x = some (.string s)) (hy : ev l y = some (.string ⟨#[]⟩)) : Vs P n l ⟨some d, .binOp .eql t x y t2, ty, pos, af, none⟩ w (.bool (decide (s.size = 0))) := by
  have h := v_eqls (P := P) (n := n) (w := w) (ty := ty) (t := t) (t2 := t2) (pos := pos) (af := af) (dst := some d) (gd := none) hx hy
  rwa [show decide (s = ⟨#[]⟩) = decide (s.size = 0) from decide_eq_decide.2 (ba_size0 s)] at h
theorem v_neq0 {s : ByteArray} (hx : ev l x = some (.string s)) (hy : ev l y = some (.string ⟨#[]⟩)) : Vs P n l ⟨some d, .binOp .neq t x y t2, ty, pos, af, none⟩ w (.bool (!decide (s.size = 0))) := by
  have h := v_neqs (P := P) (n := n) (w := w) (ty := ty) (t := t) (t2 := t2) (pos := pos) (af := af) (dst := some d) (gd := none) hx hy
  rwa [show decide (s = ⟨#[]⟩) = decide (s.size = 0) from decide_eq_decide.2 (ba_size0 s)] at h
end
/-- A name's bytes. -/
def chOk (i : Nat) (c : Int) : Prop := (97 ≤ c ∧ c ≤ 122) ∨ (65 ≤ c ∧ c ≤ 90) ∨ c = 95 ∨ (0 < i ∧ 48 ≤ c ∧ c ≤ 57)
def NameOk (m : Nat) (s : ByteArray) : Prop := 1 ≤ s.size ∧ s.size ≤ m ∧ ∀ i, i < s.size → chOk i (byt s i)
/-- What an action's part says. -/
structure AcP where
  kind : Int
  at_ : Int
  name : ByteArray
def fAc : Fk AcP := ⟨3, fun a => [.int .i64 a.kind, .int .i64 a.at_, .string a.name], fun _ => rfl, fun x u hu => by
  simp only [List.mem_cons, List.not_mem_nil, or_false] at hu
  rcases hu with rfl | rfl | rfl <;> rfl⟩
abbrev Ac := Tr AcP
def ac0 : Ac := .mk ⟨0, 0, ByteArray.empty⟩ []
/-- A production. -/
structure Pr where
  left : Int
  right : List Int
  level : Int
  act : Ac
def pr0 : Pr := ⟨0, [], 0, ac0⟩
def kPr : Kn Pr where
  sz := 7
  K := fun w p cs => ∃ A c B k, cs = [.int .i64 p.left, .slice A p.right.length c, .int .i64 p.level, .int .i64 p.act.x.kind, .int .i64 p.act.x.at_, .string p.act.x.name, .slice B p.act.kids.length k] ∧ (p.right.length ≤ c ∧ p.act.kids.length ≤ k) ∧ Rd (kInt .i64) w A p.right ∧ Rd (kTr fAc) w B p.act.kids
  len := fun ⟨_, _, _, _, h, _⟩ => by rw [h]; rfl
  one := fun ⟨_, _, _, _, h, _⟩ u hu => by
    rw [h] at hu
    simp only [List.mem_cons, List.not_mem_nil, or_false] at hu
    rcases hu with rfl | rfl | rfl | rfl | rfl | rfl | rfl <;> rfl
  st := fun hb ⟨A, c, B, k, h, hl, h1, h2⟩ => ⟨A, c, B, k, h, hl, h1.below hb, h2.below hb⟩
/-- One of a row of productions. -/
theorem Rd.atPr {w : World} {A : Option Addr} {ps : List Pr} (h : Rd kPr w A ps) {i : Nat} (hi : i < ps.length) : ∃ R c B k, (∀ j u, ([.int .i64 (ps.getD i pr0).left, .slice R (ps.getD i pr0).right.length c, .int .i64 (ps.getD i pr0).level, .int .i64 (ps.getD i pr0).act.x.kind, .int .i64 (ps.getD i pr0).act.x.at_, .string (ps.getD i pr0).act.x.name, .slice B (ps.getD i pr0).act.kids.length k] : List Value)[j]? = some u → w.cell? (((adr A).add ((i : Int).toNat * 7)).add j) = some u) ∧ ((ps.getD i pr0).right.length ≤ c ∧ (ps.getD i pr0).act.kids.length ≤ k) ∧ Rd (kInt .i64) w R (ps.getD i pr0).right ∧ Rd (kTr fAc) w B (ps.getD i pr0).act.kids := by
  obtain ⟨cs, ⟨R, c, B, k, rfl, hl, h1, h2⟩, hc⟩ := h.get pr0 (i := (i : Int)) (by omega) (by omega)
  rw [Int.toNat_natCast] at hl h1 h2 hc ⊢
  exact ⟨R, c, B, k, hc, hl, h1, h2⟩
/-- A grammar. -/
structure Pl where
  kinds : List ByteArray
  precs : List Mv
  rules : List ByteArray
  prods : List Pr
  start : Int
structure PlA where
  k : Option Addr
  ck : Nat
  p : Option Addr
  cp : Nat
  r : Option Addr
  cr : Nat
  q : Option Addr
  cq : Nat
abbrev Pl.cs (g : Pl) (a : PlA) : List Value := [.slice a.k g.kinds.length a.ck, .slice a.p g.precs.length a.cp, .slice a.r g.rules.length a.cr, .slice a.q g.prods.length a.cq, .int .i64 g.start]
structure Pl.rd (g : Pl) (w : World) (a : PlA) : Prop where
  k : Rd kStr w a.k g.kinds
  p : Rd fMv.kn w a.p g.precs
  r : Rd kStr w a.r g.rules
  q : Rd kPr w a.q g.prods
theorem Pl.rd.below {g : Pl} {w w' : World} {a : PlA} (h : g.rd w a) (hb : Below w.heap.size w w') : g.rd w' a := ⟨h.k.below hb, h.p.below hb, h.r.below hb, h.q.below hb⟩
structure Pl.ok (g : Pl) : Prop where
  k : g.kinds.length ≤ 1099511627776
  ks : ∀ s ∈ g.kinds, s.size ≤ 1099511627776
  p : g.precs.length ≤ 1099511627776
  r : g.rules.length ≤ 1099511627776
  rs : ∀ s ∈ g.rules, s.size ≤ 1099511627776
  q : g.prods.length ≤ 1099511627776
  qr : ∀ p ∈ g.prods, p.right.length ≤ 1099511627776
  qa : ∀ p ∈ g.prods, p.act.cnt ≤ 1099511627776
/-! ### what may be -/
section
variable {α : Type} (p : α → Nat → Prop)
mutual
def Tr.All : Tr α → Prop
  | .mk x kids => p x kids.length ∧ Tr.Alls kids
def Tr.Alls : List (Tr α) → Prop
  | [] => True
  | t :: r => t.All ∧ Tr.Alls r
end
end
theorem Tr.All_eq {α : Type} {p : α → Nat → Prop} (t : Tr α) : t.All p ↔ p t.x t.kids.length ∧ Tr.Alls p t.kids := by
  cases t
  rw [Tr.All]
  rfl
theorem Tr.Alls_iff {α : Type} {p : α → Nat → Prop} : ∀ ts : List (Tr α), Tr.Alls p ts ↔ ∀ t ∈ ts, t.All p
  | [] => by simp [Tr.Alls]
  | t :: r => by rw [Tr.Alls, Tr.Alls_iff r]; simp
theorem Tr.Alls_succ {α : Type} {p : α → Nat → Prop} (z : Tr α) {ts : List (Tr α)} {i : Nat} (h : i < ts.length) : Tr.Alls p (ts.take (i + 1)) ↔ Tr.Alls p (ts.take i) ∧ (ts.getD i z).All p := by
  rw [Tr.Alls_iff, Tr.Alls_iff, take_succ' z h]
  simp only [List.mem_append, List.mem_singleton]
  exact ⟨fun h => ⟨fun t ht => h t (.inl ht), h _ (.inr rfl)⟩, fun h t ht => ht.elim (h.1 t) (fun e => e ▸ h.2)⟩
theorem Tr.Alls_at {α : Type} {p : α → Nat → Prop} (z : Tr α) {ts : List (Tr α)} {i : Nat} (h : i < ts.length) (ha : Tr.Alls p ts) : (ts.getD i z).All p := (Tr.Alls_iff ts).1 ha _ (getD_mem h)
/-- A part of an action, of so many symbols, with so many kids. -/
def nodeOk (syms : Int) (x : AcP) (k : Nat) : Prop := (x.kind = 0 ∧ k = 0 ∧ x.at_ = 0 ∧ x.name.size = 0) ∨ (x.kind = 1 ∧ k = 0 ∧ (0 ≤ x.at_ ∧ x.at_ < syms) ∧ x.name.size = 0) ∨ (x.kind = 3 ∧ k = 0 ∧ x.at_ = 0 ∧ x.name.size ≤ 4096) ∨ (x.kind = 2 ∧ x.at_ = 0 ∧ 1 ≤ x.name.size ∧ x.name.size ≤ 32)
/-- The parts of an action counted: so far. -/
structure PSt (syms : Int) (t : Ac) (n : Int) (i : Nat) (m : Int) (ok : Bool) : Prop where
  le : i ≤ t.kids.length
  yes : ok = true → nodeOk syms t.x t.kids.length ∧ Tr.Alls (nodeOk syms) (t.kids.take i) ∧ m = n + 1 + Tr.cnts (t.kids.take i)
  no : ok = false → ¬ (t.All (nodeOk syms) ∧ n + t.cnt ≤ 256)
  lo : n ≤ m
  hi : m ≤ n + 1 + Tr.cnts (t.kids.take i)
section
variable {syms n m : Int} {t : Ac} {i : Nat} {ok ok' : Bool}
theorem PSt.start (h : ok = dec (nodeOk syms t.x t.kids.length)) : PSt syms t n 0 (n + 1) ok where
  le := Nat.zero_le _
  yes := fun e => ⟨of_dec (h.symm.trans e), by simp [Tr.Alls], by simp [Tr.cnts]⟩
  no := fun e hh => of_ndec (h.symm.trans e) ((Tr.All_eq t).1 hh.1).1
  lo := by omega
  hi := by omega
theorem PSt.cnt (h : PSt syms t n i m ok) : Tr.cnts (t.kids.take i) ≤ Tr.cnts t.kids ∧ t.cnt = 1 + Tr.cnts t.kids := ⟨Tr.cnts_take _ _, Tr.cnt_eq t⟩
theorem PSt.skip (h : PSt syms t n i m ok) (hi : i < t.kids.length) (hok : ok = false ∨ 256 < m) (h' : ok' = false) : PSt syms t n (i + 1) m ok' := by
  have h1 := h.cnt
  have h2 := Tr.cnts_succ ac0 _ _ hi
  have h3 := h.hi
  refine ⟨hi, fun e => absurd (h'.symm.trans e) Bool.noConfusion, fun _ hh => ?_, h.lo, by omega⟩
  rcases hok with e | e
  · exact h.no e hh
  · omega
theorem PSt.call {m' : Int} (h : PSt syms t n i m ok) (hi : i < t.kids.length) (hok : ok = true) (h' : ok' = dec ((t.kids.getD i ac0).All (nodeOk syms) ∧ m + (t.kids.getD i ac0).cnt ≤ 256)) (hm : ((t.kids.getD i ac0).All (nodeOk syms) ∧ m + (t.kids.getD i ac0).cnt ≤ 256) → m' = m + (t.kids.getD i ac0).cnt) (hl : m ≤ m' ∧ m' ≤ m + (t.kids.getD i ac0).cnt) : PSt syms t n (i + 1) m' ok' := by
  have h1 := h.cnt
  have h2 := Tr.cnts_succ ac0 _ _ hi
  have h3 := h.hi
  have h4 := h.lo
  have h6 := Tr.cnts_take t.kids (i + 1)
  obtain ⟨y1, y2, y3⟩ := h.yes hok
  refine ⟨hi, fun e => ?_, fun e hh => ?_, by omega, by omega⟩
  · have h5 := of_dec (h'.symm.trans e)
    have := hm h5
    exact ⟨y1, (Tr.Alls_succ ac0 hi).2 ⟨y2, h5.1⟩, by omega⟩
  · exact of_ndec (h'.symm.trans e) ⟨Tr.Alls_at ac0 hi ((Tr.All_eq t).1 hh.1).2, by omega⟩
theorem PSt.fin (h : PSt syms t n i m ok) (hi : ¬ ((i : Int) < t.kids.length)) (h' : ok' = true ↔ ok = true ∧ m ≤ 256) : ok' = dec (t.All (nodeOk syms) ∧ n + t.cnt ≤ 256) := by
  have h1 := h.cnt
  have he : t.kids.take i = t.kids := List.take_of_length_le (by omega)
  refine dec_eq (h'.trans ⟨fun hh => ?_, fun hh => ?_⟩)
  · obtain ⟨y1, y2, y3⟩ := h.yes hh.1
    rw [he] at y2 y3
    exact ⟨(Tr.All_eq t).2 ⟨y1, y2⟩, by omega⟩
  · cases hok : ok
    · exact absurd hh (h.no hok)
    · obtain ⟨y1, y2, y3⟩ := h.yes hok
      rw [he] at y3
      exact ⟨rfl, by omega⟩
theorem PSt.out (h : PSt syms t n i m ok) (hi : ¬ ((i : Int) < t.kids.length)) : ((t.All (nodeOk syms) ∧ n + t.cnt ≤ 256) → m = n + t.cnt) ∧ n ≤ m ∧ m ≤ n + t.cnt := by
  have h1 := h.cnt
  have he : t.kids.take i = t.kids := List.take_of_length_le (by omega)
  have h3 := h.hi
  rw [he] at h3
  refine ⟨fun hh => ?_, h.lo, by omega⟩
  cases hok : ok
  · exact absurd hh (h.no hok)
  · obtain ⟨y1, y2, y3⟩ := h.yes hok
    rw [he] at y3
    omega
/-- What is left of so many parts; -1: more are needed, or some may not be. -/
noncomputable def leftA (syms left : Int) (t : Ac) : Int := if dec (t.All (nodeOk syms) ∧ (t.cnt : Int) ≤ left) then left - t.cnt else -1
theorem leftA_t {left : Int} (h : t.All (nodeOk syms) ∧ (t.cnt : Int) ≤ left) : leftA syms left t = left - t.cnt := by rw [leftA, dec_t h]; rfl
theorem leftA_f {left : Int} (h : ¬ (t.All (nodeOk syms) ∧ (t.cnt : Int) ≤ left)) : leftA syms left t = -1 := by rw [leftA, dec_f h]; rfl
theorem leftA_node {left : Int} (h : ¬ nodeOk syms t.x t.kids.length) : leftA syms left t = -1 := leftA_f fun hh => h ((Tr.All_eq t).1 hh.1).1
theorem leftA_few {left : Int} (h : left < 1) : leftA syms left t = -1 := leftA_f fun hh => by have := Tr.cnt_eq t; omega
structure PSr (syms : Int) (t : Ac) (left : Int) (i : Nat) (r : Int) : Prop where
  le : i ≤ t.kids.length
  ok : nodeOk syms t.x t.kids.length
  yes : 0 ≤ r → Tr.Alls (nodeOk syms) (t.kids.take i) ∧ r = left - 1 - Tr.cnts (t.kids.take i)
  no : r < 0 → r = -1 ∧ ¬ (t.All (nodeOk syms) ∧ (t.cnt : Int) ≤ left)
theorem PSr.start {left : Int} (h : nodeOk syms t.x t.kids.length) (h0 : 1 ≤ left) : PSr syms t left 0 (left - 1) where
  le := Nat.zero_le _
  ok := h
  yes := fun _ => ⟨by simp [Tr.Alls], by simp [Tr.cnts]⟩
  no := fun h => by omega
theorem PSr.rng {left r : Int} (h : PSr syms t left i r) : -1 ≤ r ∧ (r ≤ left ∨ r = -1) := by
  rcases Int.lt_or_le r 0 with h0 | h0
  · have := (h.no h0).1; omega
  · have := (h.yes h0).2; omega
theorem PSr.next {left r : Int} (h : PSr syms t left i r) (hi : i < t.kids.length) (h0 : 0 ≤ r) : PSr syms t left (i + 1) (leftA syms r (t.kids.getD i ac0)) := by
  have h2 := Tr.cnts_succ ac0 _ _ hi
  have h6 := Tr.cnts_take t.kids (i + 1)
  have h7 := Tr.cnt_eq t
  obtain ⟨y1, y2⟩ := h.yes h0
  rcases Classical.em ((t.kids.getD i ac0).All (nodeOk syms) ∧ ((t.kids.getD i ac0).cnt : Int) ≤ r) with hc | hc
  · rw [leftA_t hc]
    refine ⟨hi, h.ok, fun _ => ⟨(Tr.Alls_succ ac0 hi).2 ⟨y1, hc.1⟩, by omega⟩, fun h => by have := hc.2; omega⟩
  · rw [leftA_f hc]
    refine ⟨hi, h.ok, fun h => by omega, fun _ => ⟨rfl, fun hh => hc ⟨Tr.Alls_at ac0 hi ((Tr.All_eq t).1 hh.1).2, by omega⟩⟩⟩
theorem PSr.fin {left r : Int} (h : PSr syms t left i r) (hi : ¬ (i < t.kids.length) ∨ r < 0) : r = leftA syms left t := by
  have h7 := Tr.cnt_eq t
  rcases Int.lt_or_le r 0 with h0 | h0
  · obtain ⟨h1, h2⟩ := h.no h0
    rw [leftA_f h2, h1]
  · obtain ⟨y1, y2⟩ := h.yes h0
    have he : t.kids.take i = t.kids := List.take_of_length_le (by omega)
    rw [he] at y1 y2
    rw [leftA_t ⟨(Tr.All_eq t).2 ⟨h.ok, y1⟩, by omega⟩]
    omega
end
/-- An action may be, and has at most so many parts. -/
def ActOk (syms : Int) (most : Int) (t : Ac) : Prop := t.All (nodeOk syms) ∧ (t.cnt : Int) ≤ most
def PrOk (g : Pl) (p : Pr) : Prop := ((0 ≤ p.left ∧ p.left < g.rules.length) ∧ p.right.length ≤ 64 ∧ 0 ≤ p.level) ∧ (∀ j, j < p.right.length → 1 ≤ p.right.getD j 0 ∧ p.right.getD j 0 < g.kinds.length + g.rules.length) ∧ ActOk p.right.length 256 p.act
def Dist (l : List ByteArray) (i : Nat) : Prop := ∀ k, k < i → l.getD k ByteArray.empty ≠ l.getD i ByteArray.empty
def KindsOk (l : List ByteArray) : Prop := (2 ≤ l.length ∧ l.length ≤ 1024 ∧ l.getD 0 ByteArray.empty = ⟨#[101, 110, 100]⟩ ∧ l.getD 1 ByteArray.empty = ⟨#[101, 114, 114, 111, 114]⟩) ∧ ∀ i, i < l.length → NameOk 64 (l.getD i ByteArray.empty) ∧ Dist l i
def RulesOk (l : List ByteArray) : Prop := (1 ≤ l.length ∧ l.length ≤ 2048) ∧ ∀ i, i < l.length → (1 ≤ (l.getD i ByteArray.empty).size ∧ (l.getD i ByteArray.empty).size ≤ 4096) ∧ Dist l i
def precOk (i : Nat) (m : Mv) : Prop := (m.d = 0 ∧ m.n = 0) ∨ (1 ≤ m.d ∧ 1 ≤ m.n ∧ m.n ≤ 3 ∧ 2 ≤ i)
def PrecsOk (l : List Mv) : Prop := ∀ i, i < l.length → precOk i (l.getD i mv0)
def GOk (g : Pl) : Prop := (KindsOk g.kinds ∧ g.precs.length = g.kinds.length ∧ PrecsOk g.precs ∧ RulesOk g.rules) ∧ ((0 ≤ g.start ∧ g.start < g.rules.length) ∧ g.prods.length ≤ 4096) ∧ ∀ i, i < g.prods.length → PrOk g (g.prods.getD i pr0)
noncomputable def checkG (g : Pl) : Int := if dec (GOk g) then 0 else 130
theorem checkG_t {g : Pl} (h : GOk g) : checkG g = 0 := by rw [checkG, dec_t h]; rfl
theorem checkG_f {g : Pl} (h : ¬ GOk g) : checkG g = 130 := by rw [checkG, dec_f h]; rfl
end Go.Proofs.YtgdemplcpcacaaaFx

/-! What is laid down and only read from then on: frozen things, rows of them. -/
namespace Go.Proofs.YtgdemplcpcacaaaFx
open Go Go.RowKit
/-- A kind of things: what their cells are, where cells are known so. -/
structure Kr (α : Type) where
  sz : Nat
  K : (Addr → Value → Prop) → α → List Value → Prop
  len : ∀ {C : Addr → Value → Prop} {x : α} {cs : List Value}, K C x cs → cs.length = sz
  one : ∀ {C : Addr → Value → Prop} {x : α} {cs : List Value}, K C x cs → ∀ u ∈ cs, u.oneCell' = true
  mono : ∀ {C C' : Addr → Value → Prop} {x : α} {cs : List Value}, (∀ p v, C p v → C' p v) → K C x cs → K C' x cs
def atW (w : World) (p : Addr) (v : Value) : Prop := w.cell? p = some v
/-- Cells of the blocks T as they were in W, of the blocks S as they are. -/
def CC (W : World) (T S : Nat → Prop) (w : World) (p : Addr) (v : Value) : Prop := (T p.block ∧ W.cell? p = some v) ∨ (S p.block ∧ w.cell? p = some v)
def Kr.kn {α : Type} (d : Kr α) : Kn α where
  sz := d.sz
  K := fun w x cs => d.K (atW w) x cs
  len := d.len
  one := d.one
  st := fun hb h => d.mono (fun p v hc => cell_below hb hc) h
/-- The slice at A reads as xs. -/
structure RdC {α : Type} (d : Kr α) (C : Addr → Value → Prop) (A : Option Addr) (xs : List α) : Prop where
  ad : 0 < xs.length → A = some (adr A)
  el : ∀ (j : Nat) (x : α), xs[j]? = some x → ∃ cs, d.K C x cs ∧ ∀ i u, cs[i]? = some u → C ((adr A).add (j * d.sz + i)) u
section
variable {α : Type} {d : Kr α} {C C' : Addr → Value → Prop} {A : Option Addr} {xs : List α}
theorem RdC.mono (h : RdC d C A xs) (hC : ∀ p v, C p v → C' p v) : RdC d C' A xs := ⟨h.ad, fun j x hx => by
  obtain ⟨cs, h1, h2⟩ := h.el j x hx
  exact ⟨cs, d.mono hC h1, fun i u hu => hC _ _ (h2 i u hu)⟩⟩
theorem RdC.rd {w : World} (h : RdC d (atW w) A xs) : Rd d.kn w A xs := ⟨h.ad, h.el⟩
theorem Rd.rdc {w : World} (h : Rd d.kn w A xs) : RdC d (atW w) A xs := ⟨h.ad, h.el⟩
end
def Kr.sl {α : Type} (d : Kr α) : Kr (List α) where
  sz := 1
  K := fun C xs cs => ∃ A c, cs = [.slice A xs.length c] ∧ xs.length ≤ c ∧ RdC d C A xs
  len := fun ⟨_, _, h, _⟩ => by rw [h]; rfl
  one := fun ⟨_, _, h, _⟩ u hu => by rw [h] at hu; rw [List.mem_singleton.1 hu]; rfl
  mono := fun hC ⟨A, c, h, hl, hr⟩ => ⟨A, c, h, hl, hr.mono hC⟩
/-! ### trees -/
mutual
def Tr.R {α : Type} (f : Fk α) (C : Addr → Value → Prop) : Tr α → List Value → Prop
  | .mk x kids, cs => ∃ A c, cs = f.enc x ++ [.slice A kids.length c] ∧ kids.length ≤ c ∧ (0 < kids.length → A = some (adr A)) ∧ Tr.Rs f C kids (adr A) 0
def Tr.Rs {α : Type} (f : Fk α) (C : Addr → Value → Prop) : List (Tr α) → Addr → Nat → Prop
  | [], _, _ => True
  | t :: r, p, j => (∃ cs, Tr.R f C t cs ∧ ∀ i u, cs[i]? = some u → C (p.add (j * (f.sz + 1) + i)) u) ∧ Tr.Rs f C r p (j + 1)
end
section
variable {α : Type} {f : Fk α} {C C' : Addr → Value → Prop} {w : World}
mutual
theorem Tr.R.mono (hC : ∀ p v, C p v → C' p v) : ∀ (t : Tr α) (cs : List Value), Tr.R f C t cs → Tr.R f C' t cs
  | .mk x kids, cs, h => by
    unfold Tr.R at h ⊢
    obtain ⟨A, c, h1, h2, h3, h4⟩ := h
    exact ⟨A, c, h1, h2, h3, Tr.Rs.mono hC kids (adr A) 0 h4⟩
theorem Tr.Rs.mono (hC : ∀ p v, C p v → C' p v) : ∀ (ts : List (Tr α)) (p : Addr) (j : Nat), Tr.Rs f C ts p j → Tr.Rs f C' ts p j
  | [], _, _, _ => by unfold Tr.Rs; trivial
  | t :: r, p, j, h => by
    unfold Tr.Rs at h ⊢
    obtain ⟨⟨cs, h1, h2⟩, h3⟩ := h
    exact ⟨⟨cs, Tr.R.mono hC t cs h1, fun i u hu => hC _ _ (h2 i u hu)⟩, Tr.Rs.mono hC r p (j + 1) h3⟩
end
mutual
theorem Tr.R.k : ∀ (t : Tr α) (cs : List Value), Tr.R f (atW w) t cs → Tr.K f w t cs
  | .mk x kids, cs, h => by
    unfold Tr.R at h
    unfold Tr.K
    obtain ⟨A, c, h1, h2, h3, h4⟩ := h
    exact ⟨A, c, h1, h2, h3, Tr.Rs.k kids (adr A) 0 h4⟩
theorem Tr.Rs.k : ∀ (ts : List (Tr α)) (p : Addr) (j : Nat), Tr.Rs f (atW w) ts p j → Tr.Ks f w ts p j
  | [], _, _, _ => by unfold Tr.Ks; trivial
  | t :: r, p, j, h => by
    unfold Tr.Rs at h
    unfold Tr.Ks
    obtain ⟨⟨cs, h1, h2⟩, h3⟩ := h
    exact ⟨⟨cs, Tr.R.k t cs h1, fun i u hu => h2 i u hu⟩, Tr.Rs.k r p (j + 1) h3⟩
end
theorem Tr.R.form {t : Tr α} {cs : List Value} (h : Tr.R f C t cs) : ∃ A c, cs = f.enc t.x ++ [.slice A t.kids.length c] ∧ t.kids.length ≤ c ∧ (0 < t.kids.length → A = some (adr A)) ∧ Tr.Rs f C t.kids (adr A) 0 := by
  cases t with
  | mk x kids => unfold Tr.R at h; exact h
def krTr (f : Fk α) : Kr (Tr α) where
  sz := f.sz + 1
  K := fun C t cs => Tr.R f C t cs
  len := fun h => by
    obtain ⟨A, c, rfl, _⟩ := h.form
    rw [List.length_append, f.len]
    rfl
  one := fun h u hu => by
    obtain ⟨A, c, rfl, _⟩ := h.form
    rcases List.mem_append.1 hu with h1 | h1
    · exact f.one _ u h1
    · rw [List.mem_singleton.1 h1]; rfl
  mono := fun hC h => Tr.R.mono hC _ _ h
theorem Tr.Rs.el : ∀ (ts : List (Tr α)) (p : Addr) (j0 : Nat), Tr.Rs f C ts p j0 → ∀ j t, ts[j]? = some t → ∃ cs, Tr.R f C t cs ∧ ∀ i u, cs[i]? = some u → C (p.add ((j0 + j) * (f.sz + 1) + i)) u
  | [], _, _, _, j, t, h => by simp at h
  | t :: r, p, j0, h, j, t', ht => by
    unfold Tr.Rs at h
    obtain ⟨h1, h2⟩ := h
    cases j with
    | zero =>
      simp only [List.getElem?_cons_zero, Option.some.injEq] at ht
      subst ht
      exact h1
    | succ j =>
      obtain ⟨cs, h3, h4⟩ := Tr.Rs.el r p (j0 + 1) h2 j t' (by simpa using ht)
      exact ⟨cs, h3, fun i u hu => by rw [show j0 + (j + 1) = j0 + 1 + j by omega]; exact h4 i u hu⟩
theorem Tr.Rs.of : ∀ (ts : List (Tr α)) (p : Addr) (j0 : Nat), (∀ j t, ts[j]? = some t → ∃ cs, Tr.R f C t cs ∧ ∀ i u, cs[i]? = some u → C (p.add ((j0 + j) * (f.sz + 1) + i)) u) → Tr.Rs f C ts p j0
  | [], _, _, _ => by unfold Tr.Rs; trivial
  | t :: r, p, j0, h => by
    unfold Tr.Rs
    exact ⟨h 0 t rfl, Tr.Rs.of r p (j0 + 1) fun j t' ht => by
      obtain ⟨cs, h1, h2⟩ := h (j + 1) t' (by simpa using ht)
      exact ⟨cs, h1, fun i u hu => by rw [show j0 + 1 + j = j0 + (j + 1) by omega]; exact h2 i u hu⟩⟩
theorem Tr.R.open {t : Tr α} {cs : List Value} (h : Tr.R f C t cs) : ∃ A c, cs = f.enc t.x ++ [.slice A t.kids.length c] ∧ t.kids.length ≤ c ∧ RdC (krTr f) C A t.kids := by
  obtain ⟨A, c, h1, h2, h3, h4⟩ := h.form
  refine ⟨A, c, h1, h2, h3, fun j t' ht => ?_⟩
  obtain ⟨cs', h5, h6⟩ := Tr.Rs.el _ _ _ h4 j t' ht
  exact ⟨cs', h5, fun i u hu => by have := h6 i u hu; rwa [Nat.zero_add] at this⟩
theorem Tr.R.mk {x : α} {kids : List (Tr α)} {A : Option Addr} {c : Nat} (h : kids.length ≤ c) (hr : RdC (krTr f) C A kids) : Tr.R f C (.mk x kids) (f.enc x ++ [.slice A kids.length c]) := by
  unfold Tr.R
  refine ⟨A, c, rfl, h, hr.ad, Tr.Rs.of _ _ _ fun j t ht => ?_⟩
  obtain ⟨cs, h1, h2⟩ := hr.el j t ht
  exact ⟨cs, h1, fun i u hu => by rw [Nat.zero_add]; exact h2 i u hu⟩
/-- Known in the world: read as trees are. -/
theorem RdC.tr {A : Option Addr} {ts : List (Tr α)} (h : RdC (krTr f) (atW w) A ts) : Rd (kTr f) w A ts := ⟨h.ad, fun j t ht => by
  obtain ⟨cs, h1, h2⟩ := h.el j t ht
  exact ⟨cs, Tr.R.k t cs h1, h2⟩⟩
end
/-! ### chunks -/
theorem CC.imp {W W' : World} {T T' S S' : Nat → Prop} {w w' : World} {p : Addr} {v : Value} (h : CC W T S w p v) (h1 : ∀ p v, T p.block → W.cell? p = some v → CC W' T' S' w' p v) (h2 : ∀ p v, S p.block → w.cell? p = some v → CC W' T' S' w' p v) : CC W' T' S' w' p v := h.elim (fun h => h1 p v h.1 h.2) (fun h => h2 p v h.1 h.2)
theorem cell_of_blk {w w' : World} {p : Addr} {v : Value} (h : w'.heap[p.block]? = w.heap[p.block]?) (hc : w.cell? p = some v) : w'.cell? p = some v := (World.cell?_of_block h).trans hc
theorem CC.st {W : World} {T S : Nat → Prop} {w w' : World} (h : ∀ k, S k → w'.heap[k]? = w.heap[k]?) (p : Addr) (v : Value) (hc : CC W T S w p v) : CC W T S w' p v :=
  hc.imp (fun p v hT hv => .inl ⟨hT, hv⟩) (fun p v hS hv => .inr ⟨hS, cell_of_blk (h _ hS) hv⟩)
theorem CC.sub {W : World} {T S S' : Nat → Prop} {w : World} (h : ∀ k, S k → S' k) (p : Addr) (v : Value) (hc : CC W T S w p v) : CC W T S' w p v :=
  hc.imp (fun p v hT hv => .inl ⟨hT, hv⟩) (fun p v hS hv => .inr ⟨h _ hS, hv⟩)
section
variable {α : Type} (d : Kr α) (W : World) (T : Nat → Prop)
/-- A frozen thing. -/
def NX (x : α) (cs : List Value) : Ch where
  p := fun w S => d.K (CC W T S w) x cs
  st := fun h hp => d.mono (fun p v => CC.st h p v) hp
/-- Frozen things. -/
def NXs (xs : List α) (css : List (List Value)) : Ch where
  p := fun w S => css.length = xs.length ∧ ∀ (j : Nat) (x : α), xs[j]? = some x → ∃ cs, css[j]? = some cs ∧ d.K (CC W T S w) x cs
  st := fun h hp => ⟨hp.1, fun j x hx => by
    obtain ⟨cs, h1, h2⟩ := hp.2 j x hx
    exact ⟨cs, h1, d.mono (fun p v => CC.st h p v) h2⟩⟩
/-- A row of the call's own, of frozen things. -/
def FRow (e : TypeId) (v : Value) (xs : List α) : Ch where
  p := fun w S => ∃ css : List (List Value), HL [Raw e d.sz v xs.length css.flatten, NXs d W T xs css] w S
  st := fun h ⟨css, hp⟩ => ⟨css, HL.st h hp⟩
end
section
variable {α : Type} {d : Kr α} {W W0 w w' w1 w2 : World} {T : Nat → Prop} {e : TypeId} {v : Value} {xs : List α} {x : α} {cs : List Value} {L L' L1 L2 : List Ch} {A : Option Addr} {n c : Nat}
theorem pm_refl : ∀ L : List Ch, Pm L L
  | [] => .nil _
  | A :: L => .cons (.here _ _) (pm_refl L)
theorem pm_skip {A : Ch} : ∀ {L L' : List Ch}, Pm L L' → Pm (A :: L) L'
  | _, _, .nil _ => .nil _
  | _, _, .cons D h => .cons (.there _ D) (pm_skip h)
theorem Holds.frNil (H : Holds W0 L w) (d : Kr α) (W : World) (T : Nat → Prop) (e : TypeId) : Holds W0 (FRow d W T e (.slice none 0 0) [] :: L) w := by
  have h1 : Holds W0 (NXs d W T [] [] :: L) w := H.pure ⟨rfl, fun j x hx => by simp at hx⟩
  have h2 : Holds W0 ([Raw e d.sz (.slice none 0 0) 0 [], NXs d W T [] []] ++ L) w := h1.nilrow e d.sz
  exact h2.closed fun S h => ⟨[], h⟩
theorem Holds.frForm (H : Holds W0 L w) (U : Upd L (FRow d W T e v xs) (FRow d W T e v xs) L) : ∃ A c, v = .slice A xs.length c ∧ xs.length ≤ c ∧ xs.length ≤ maxLen := by
  obtain ⟨S, _, css, S1, S2, _, _, _, h4, _⟩ := H.get U
  obtain ⟨A, c, hv, hn, _⟩ := own_slice h4.2
  exact ⟨A, c, hv, hn, own_max h4.2⟩
theorem flatten_el {css : List (List Value)} {sz : Nat} (hl : ∀ cs ∈ css, cs.length = sz) : ∀ (j : Nat) (cs : List Value), css[j]? = some cs → ∀ i u, cs[i]? = some u → css.flatten[j * sz + i]? = some u := by
  induction css with
  | nil => intro j cs h; simp at h
  | cons a r ih =>
    intro j cs h i u hu
    have ha := hl a List.mem_cons_self
    cases j with
    | zero =>
      simp only [List.getElem?_cons_zero, Option.some.injEq] at h
      subst h
      rw [List.flatten_cons, Nat.zero_mul, Nat.zero_add, List.getElem?_append_left (List.getElem?_eq_some_iff.1 hu).1]
      exact hu
    | succ j =>
      rw [List.flatten_cons, List.getElem?_append_right (by rw [ha, Nat.add_mul]; omega), ha, show (j + 1) * sz + i - sz = j * sz + i by rw [Nat.add_mul]; omega]
      exact ih (fun cs hcs => hl cs (List.mem_cons_of_mem _ hcs)) j cs (by simpa using h) i u hu
/-- A row of frozen things, as it is known. -/
theorem FRow.known {S : Nat → Prop} (h : (FRow d W T e v xs).p w S) : ∃ A c, v = .slice A xs.length c ∧ xs.length ≤ c ∧ RdC d (CC W T S w) A xs := by
  obtain ⟨css, S1, S2, h1, h2, h3, h4, S3, S4, g1, _, _, hz, _⟩ := h
  obtain ⟨hl, hel⟩ := hz
  obtain ⟨A, c, rfl, hn, hA, hc⟩ := own_slice h4.2
  have hlen : ∀ cs ∈ css, cs.length = d.sz := fun cs hcs => by
    obtain ⟨j, hj, rfl⟩ := List.mem_iff_getElem.1 hcs
    obtain ⟨cs', h5, h6⟩ := hel j _ (List.getElem?_eq_getElem (by omega))
    rw [List.getElem?_eq_getElem hj] at h5
    cases h5
    exact d.len h6
  refine ⟨A, c, rfl, hn, hA, fun j x hx => ?_⟩
  obtain ⟨cs, h5, h6⟩ := hel j x hx
  refine ⟨cs, d.mono (fun p v => CC.sub (fun k hk => h2 k (g1 k hk)) p v) h6, fun i u hu => .inr ⟨h1 _ ?_, hc _ u (flatten_el hlen j cs h5 i u hu)⟩⟩
  have hj : 0 < xs.length := by have := (List.getElem?_eq_some_iff.1 hx).1; omega
  have hb := h4.1 (adr A).block (by rw [hA hj]; rfl)
  have : ((adr A).add (j * d.sz + i)).block = (adr A).block := by unfold Addr.add; split <;> rfl
  rw [this]
  exact hb
theorem Holds.frz (H : Holds W0 (FRow d W T e v xs :: L) w) : ∃ A c, v = .slice A xs.length c ∧ xs.length ≤ c ∧ Holds W0 (NX d.sl W T xs [.slice A xs.length c] :: L) w := by
  obtain ⟨A, c, rfl, hl⟩ := H.frForm (.here _ _ _)
  exact ⟨A, c, rfl, hl.1, H.head_imp fun S h => by
    obtain ⟨A', c', he, h2, h3⟩ := FRow.known h
    injection he with e1 _ e3
    subst e1 e3
    exact ⟨A, c, rfl, h2, h3⟩⟩
/-- As it is read. -/
theorem CC.atw {S : Nat → Prop} (H : Holds W0 L w) (hT : ∀ k, T k → k < W0.heap.size) (p : Addr) (v : Value) (hc : CC W0 T S w p v) : atW w p v := hc.elim (fun h => H.cell h.2) (fun h => h.2)
theorem Holds.nx (H : Holds W0 L w) (U : Upd L (NX d W0 T x cs) (NX d W0 T x cs) L) : d.K (atW w) x cs := by
  obtain ⟨S, _, h⟩ := H.get U
  exact d.mono (fun p v hc => hc.elim (fun h => H.cell h.2) (fun h => h.2)) h
theorem Holds.frRd (H : Holds W0 L w) (U : Upd L (FRow d W0 T e (.slice A n c) xs) (FRow d W0 T e (.slice A n c) xs) L) : RdC d (atW w) A xs := by
  obtain ⟨S, _, h⟩ := H.get U
  obtain ⟨A', c', he, h2, h3⟩ := FRow.known h
  injection he with e1 _ e3
  subst e1 e3
  exact h3.mono (fun p v hc => hc.elim (fun h => H.cell h.2) (fun h => h.2))
/-- What a call left frozen, over what the caller knew from the beginning. -/
theorem Holds.callNX {Cs : List Ch} (H : Holds W0 L w1) (hT : ∀ k, T k → k < W0.heap.size) (Hc : Holds w1 (NX d w1 T x cs :: Cs) w2) : Holds W0 (NX d W0 T x cs :: (Cs ++ L)) w2 := by
  have h := H.call Hc
  refine Holds.head_imp (fun S hp => ?_) h
  exact d.mono (fun p v hc => hc.imp (fun p v hT' hv => .inl ⟨hT', by
    have := World.cell?_of_block (w' := w1) (w := W0) (a := p) (H.old.block _ (hT _ hT'))
    rw [← this]; exact hv⟩) (fun p v hS hv => .inr ⟨hS, hv⟩)) hp
theorem Holds.callN1 (H : Holds W0 L w1) (hT : ∀ k, T k → k < W0.heap.size) (Hc : Holds w1 [NX d w1 T x cs] w2) : Holds W0 (NX d W0 T x cs :: L) w2 := H.callNX hT Hc
/-- A row of frozen things of the caller's own is handed over: what the call leaves may share its blocks. -/
theorem Holds.handOver (H : Holds W0 (FRow d W (fun _ => False) e (.slice A n c) xs :: L) w1) : ∃ S : Nat → Prop, (∀ k, S k → k < w1.heap.size) ∧ RdC d (fun p v => S p.block ∧ w1.cell? p = some v) A xs ∧
    ∀ {β : Type} (d' : Kr β) (x' : β) (cs : List Value) (w2 : World), Holds w1 [NX d' w1 S x' cs] w2 → Holds W0 (NX d' W (fun _ => False) x' cs :: L) w2 := by
  obtain ⟨ho, S1, S2, h1, h2, h3, h4, h5⟩ := H
  obtain ⟨A', c', he, _, hr⟩ := FRow.known h4
  injection he with e1 _ _
  subst e1
  refine ⟨S1, fun k hk => (h1 k hk).2, hr.mono fun p v hc => hc.elim (fun h => h.1.elim) (fun h => h), fun d' x' cs w2 Hc => ?_⟩
  obtain ⟨hb, T1, T2, g1, _, _, g4, _⟩ := Hc
  refine ⟨ho.trans (hb.mono ho.size), fun k => S1 k ∨ T1 k, S2, fun k hk => ?_, fun k hk => ⟨(h2 k hk).1, Nat.lt_of_lt_of_le (h2 k hk).2 hb.size⟩, fun k hk hk2 => ?_, d'.mono (fun p v hc => hc.imp (fun p v hs hv => .inr ⟨.inl hs, cell_of_blk (hb.block _ (h1 _ hs).2) hv⟩) (fun p v hs hv => .inr ⟨.inr hs, hv⟩)) g4, HL.st (fun k hk => hb.block k (h2 k hk).2) h5⟩
  · rcases hk with hk | hk
    · exact ⟨(h1 k hk).1, Nat.lt_of_lt_of_le (h1 k hk).2 hb.size⟩
    · exact ⟨Nat.le_trans ho.size (g1 k hk).1, (g1 k hk).2⟩
  · rcases hk with hk | hk
    · exact h3 k hk hk2
    · exact Nat.lt_irrefl _ (Nat.lt_of_lt_of_le (h2 k hk2).2 (g1 k hk).1)
/-- A call that was handed frozen things of the caller's own. -/
theorem Holds.callOver {S : Nat → Prop} {Cs : List Ch} (H : Holds W0 L w1) (hS : ∀ k, S k → W0.heap.size ≤ k ∧ k < w1.heap.size) (Hc : Holds w1 (NX d w1 S x cs :: Cs) w2) (W : World) : Holds W0 [NX d W (fun _ => False) x cs] w2 := by
  obtain ⟨ho, S1, S2, h1, h2, h3, h4, _⟩ := Hc
  refine ⟨H.old.trans (ho.mono H.old.size), fun k => S k ∨ S1 k, fun _ => False, fun k hk => ?_, fun k hk => hk.elim, fun _ _ h => h.elim, d.mono (fun p v hc => hc.imp (fun p v hs hv => .inr ⟨.inl hs, ?_⟩) (fun p v hs hv => .inr ⟨.inr hs, hv⟩)) h4, trivial⟩
  · rcases hk with hk | hk
    · exact ⟨(hS k hk).1, Nat.lt_of_lt_of_le (hS k hk).2 ho.size⟩
    · exact ⟨Nat.le_trans H.old.size (h1 k hk).1, (h1 k hk).2⟩
  · exact cell_of_blk (ho.block _ (hS _ hs).2) hv
end
section
variable {α : Type} {d : Kr α} {W W0 w : World} {T : Nat → Prop} {P : Program} {n : Nat} {Q : Post} {l : Fr} {L L1 L2 : List Ch} {ops : Array Oper} {rest : List Oper} {dd : Nat} {x sx : Operand} {ty t e : TypeId} {pos : String} {af : Array Edge} {v : Value} {xs : List α} {x' : α} {cs : List Value}
/-- append(row, thing). -/
theorem wl_appF {z : Value} {bytes b : Nat} (H : Holds W0 L w) (D1 : Del L (NX d W T x' cs) L1) (D2 : Del L1 (FRow d W T e v xs) L2) (hcell : ∀ j u, cs[j]? = some u → w.cell? ((⟨b, 0, none⟩ : Addr).add j) = some u) (hn : Nat.ble (dd + 1) n = true)
    (ht : P.underlying t = some (.slice e)) (hi : (P.info? e).map (fun i => (i.zero, i.size, i.bytes)) = some (some z, d.sz, bytes)) (hz : z.cells.size = d.sz) (hs0 : 0 < d.sz)
    (hs : ev l sx = some v) (hx : ev l x = some (.slice (some ⟨b, 0, none⟩) 1 1)) (hb : (xs.length + 1) * bytes ≤ 140737488355328) (hb0 : 0 < bytes)
    (h : ∀ A c w', Holds W0 (FRow d W T e (.slice A (xs ++ [x']).length c) (xs ++ [x']) :: L2) w' → w.heap.size ≤ w'.heap.size → wl P n ops rest Q ((dd, .slice A (xs ++ [x']).length c) :: l) w') : wl P n ops (⟨some dd, .call { callee := .builtin .append, args := #[sx, x], argTypes := #[t, t] }, ty, pos, af, none⟩ :: rest) Q l w := by
  have H1 : Holds W0 (FRow d W T e v xs :: NX d W T x' cs :: L2) w := (H.turn D1).turn (.there _ D2)
  have hcs : cs.length = d.sz ∧ ∀ u ∈ cs, u.oneCell' = true := by
    obtain ⟨_, _, hp⟩ := H1.get (A := NX d W T x' cs) (.there _ (.here _ _ _))
    exact ⟨d.len hp, d.one hp⟩
  obtain ⟨ho, S1, S2, a1, a2, a3, ⟨css, hp⟩, a5⟩ := H1
  have H2 : Holds W0 ([Raw e d.sz v xs.length css.flatten, NXs d W T xs css] ++ NX d W T x' cs :: L2) w := ⟨ho, HL.app a1 a2 a3 hp a5⟩
  refine wl_append (L' := fun v' => [Raw e d.sz v' (xs.length + 1) (css.flatten ++ cs), NXs d W T xs css] ++ NX d W T x' cs :: L2) (cs := css.flatten) (news := cs) H2 (fun v' => .here _ _ _) hn ht hi hz hs0 hs hx (fun _ => rfl) (by rw [hcs.1, Nat.one_mul]) hcell hcs.2 hb hb0 (fun v' w' H' hsz => ?_)
  have e1 : css.flatten ++ cs = (css ++ [cs]).flatten := by simp
  have H3 : Holds W0 (NXs d W T xs css :: NX d W T x' cs :: Raw e d.sz v' (xs.length + 1) (css.flatten ++ cs) :: L2) w' := H'.pm (.cons (.there _ (.here _ _)) (.cons (.there _ (.here _ _)) (.cons (.here _ _) (pm_refl _))))
  have H4 : Holds W0 (NXs d W T (xs ++ [x']) (css ++ [cs]) :: Raw e d.sz v' (xs.length + 1) (css.flatten ++ cs) :: L2) w' := H3.merge fun S1 S2 hd h1 h2 => ⟨by rw [List.length_append, List.length_append, h1.1]; rfl, fun j y hy => by
    rcases Nat.lt_or_ge j xs.length with hj | hj
    · rw [List.getElem?_append_left hj] at hy
      obtain ⟨c', h5, h6⟩ := h1.2 j y hy
      exact ⟨c', by rw [List.getElem?_append_left (by rw [h1.1]; exact hj)]; exact h5, d.mono (fun p v => CC.sub (fun k hk => .inl hk) p v) h6⟩
    · rw [List.getElem?_append_right hj] at hy
      have hj0 : j - xs.length = 0 := by
        have := (List.getElem?_eq_some_iff.1 hy).1
        simp at this
        omega
      rw [hj0] at hy
      simp only [List.getElem?_cons_zero, Option.some.injEq] at hy
      subst hy
      exact ⟨cs, by rw [List.getElem?_append_right (by rw [h1.1]; exact hj), h1.1, hj0]; rfl, d.mono (fun p v => CC.sub (fun k hk => .inr hk) p v) h2⟩⟩
  rw [e1] at H4
  have H5 : Holds W0 ([Raw e d.sz v' (xs ++ [x']).length (css ++ [cs]).flatten, NXs d W T (xs ++ [x']) (css ++ [cs])] ++ L2) w' := by
    rw [show (xs ++ [x']).length = xs.length + 1 by simp]
    exact H4.pm (.cons (.there _ (.here _ _)) (.cons (.here _ _) (pm_refl _)))
  have H6 : Holds W0 (FRow d W T e v' (xs ++ [x']) :: L2) w' := H5.closed fun S h => ⟨css ++ [cs], h⟩
  obtain ⟨A, c, rfl, _⟩ := H6.frForm (.here _ _ _)
  exact h A c w' H6 hsz
end
/-- A call of a function value, whatever it is. -/
def CallsV (P : Program) (v : Value) (vs : List Value) (w : World) (R : Value → World → Prop) : Prop :=
  ∃ (g : FuncId) (first cap : List Value), v = .func (.func g) first.toArray cap.toArray ∧ Enters P g ∧ Calls P g (first ++ vs ++ cap).toArray w fun e w' => ∃ v, e = .returned v ∧ R v w'
theorem wl_callV {P : Program} {n : Nat} {Q : Post} {l : Fr} {w : World} {ops : Array Oper} {rest : List Oper} {d : Nat} {ty : TypeId} {pos : String} {af : Array Edge} {fo : Operand} {v : Value} {xs : List Operand} {vs : List Value} {ats : Array TypeId} {R : Value → World → Prop} (hf : ev l fo = some v) (hx : evs l xs = some vs) (hn : Nat.ble (d + 1) n = true) (hc : CallsV P v vs w R)
    (h : ∀ v w', R v w' → wl P n ops rest Q ((d, v) :: l) w') : wl P n ops (⟨some d, .call { callee := .value fo, args := xs.toArray, argTypes := ats }, ty, pos, af, none⟩ :: rest) Q l w := by
  obtain ⟨g, first, cap, rfl, he, hc⟩ := hc
  exact wl_callv he hf hx hn hc h
end Go.Proofs.YtgdemplcpcacaaaFx

/-! Builders of strings of the call's own. -/
namespace Go.Proofs.YtgdemplcpcacaaaFx
open Go Go.RowKit
abbrev byC (l : List UInt8) : List Value := Lib.byteCells l
theorem byC_len (l : List UInt8) : (byC l).length = l.length := Lib.byteCells_length l
theorem byC_app (a b : List UInt8) : byC (a ++ b) = byC a ++ byC b := Lib.byteCells_append a b
theorem byC_str (s : ByteArray) : Lib.strCells s = byC s.data.toList := rfl
theorem app_ne {l : List UInt8} {s : ByteArray} (h : 0 < s.size) : l ++ s.data.toList ≠ [] := fun e => by
  have h2 := (List.append_eq_nil_iff.1 e).2
  have h3 : s.data.toList.length = 0 := by rw [h2]; rfl
  rw [Array.length_toList] at h3
  have h4 : s.size = 0 := h3
  omega
/-- A builder that has been given the bytes l: T its type, e its bytes'. -/
def SB (T e : TypeId) (b : Nat) (l : List UInt8) : Ch where
  p := fun w S => ∃ p v : Value, (p = Value.pointer none ∨ p = Value.pointer (some ⟨b, 0, none⟩)) ∧ (l = [] → v = Value.slice none 0 0) ∧ HL [Blk b T [p, v], Raw e 1 v l.length (byC l)] w S
  st := fun h ⟨p, v, hp, hn, hl⟩ => ⟨p, v, hp, hn, HL.st h hl⟩
section
variable {W0 w : World} {L : List Ch} {T e : TypeId} {b : Nat} {l : List UInt8} {v : Value}
theorem Holds.sbNew (H : Holds W0 (Blk b T [.pointer none, .slice none 0 0] :: L) w) : Holds W0 (SB T e b [] :: L) w := by
  have h2 : Holds W0 ([Blk b T [.pointer none, .slice none 0 0], Raw e 1 (.slice none 0 0) 0 []] ++ L) w := (H.nilrow e 1).pm (.cons (.there _ (.here _ _)) (.cons (.here _ _) (pm_refl _)))
  exact h2.closed fun S h => ⟨_, _, .inl rfl, fun _ => rfl, h⟩
theorem Holds.sbOpen (H : Holds W0 (SB T e b l :: L) w) : ∃ p A c, (p = Value.pointer none ∨ p = Value.pointer (some ⟨b, 0, none⟩)) ∧ (c ≠ 0 ∨ A = none) ∧ Holds W0 (Blk b T [p, .slice A l.length c] :: Raw e 1 (.slice A l.length c) l.length (byC l) :: L) w := by
  obtain ⟨ho, S1, S2, h1, h2, h3, ⟨p, v, hp, hnil, hl⟩, h5⟩ := H
  have H2 : Holds W0 ([Blk b T [p, v], Raw e 1 v l.length (byC l)] ++ L) w := ⟨ho, HL.app h1 h2 h3 hl h5⟩
  have hr := H2.raw (e := e) (size := 1) (v := v) (n := l.length) (cs := byC l) (.there _ (.here _ _ _))
  obtain ⟨A, c, rfl, hle, _⟩ := own_slice hr
  refine ⟨p, A, c, hp, ?_, H2⟩
  cases l with
  | nil =>
    have := hnil rfl
    injection this with e1 _ _
    exact .inr e1
  | cons x r => exact .inl (by simp at hle; omega)
theorem Holds.sbClose {p : Value} (hp : p = Value.pointer none ∨ p = Value.pointer (some ⟨b, 0, none⟩)) (h0 : l ≠ []) (H : Holds W0 (Blk b T [p, v] :: Raw e 1 v l.length (byC l) :: L) w) : Holds W0 (SB T e b l :: L) w :=
  Holds.closed (Ls := [Blk b T [p, v], Raw e 1 v l.length (byC l)]) H fun S h => ⟨p, v, hp, fun h1 => absurd h1 h0, h⟩
end
section
variable {P : Program} {n : Nat} {Q : Post} {l : Fr} {w W0 : World} {L : List Ch} {ops : Array Oper} {rest : List Oper} {d b : Nat} {x y sx : Operand} {ty t t2 e u : TypeId} {pos : String} {af : Array Edge} {v : Value} {cs : List Value}
theorem v_eqlp {p : Option Addr} (ht : P.underlying t = some (.pointer (P.pointee t))) (hx : ev l x = some (.pointer p)) (hy : ev l y = some (.pointer none)) : Vs P n l ⟨some d, .binOp .eql t x y t2, ty, pos, af, none⟩ w (.bool p.isNone) := fun a ha => by
  simp [execOp, ha.eval hx, ha.eval hy, eqGuard_at_pointer, run_eql_pointer_nil w t p ht]
theorem v_neqp {tt : TypeId} {a : Addr} (ht : P.underlying t = some (.pointer tt)) (hj : (P.info? tt).isSome = true) (hx : ev l x = some (.pointer (some a))) (hy : ev l y = some (.pointer (some a))) : Vs P n l ⟨some d, .binOp .neq t x y t2, ty, pos, af, none⟩ w (.bool false) := fun c ha => by
  obtain ⟨j, hj⟩ := Option.isSome_iff_exists.1 hj
  simp [execOp, ha.eval hx, ha.eval hy, eqGuard_at_pointer, Lib.run_neq_ptr_same w a ht hj]
theorem v_ptrU {T : TypeId} (H : Holds W0 L w) (U : Upd L (Blk b T cs) (Blk b T cs) L) (hl : cs.length = 2) (hs : P.underlying t = some (.pointer T)) (hd : P.underlying t2 = some .unsafePointer) (ht : (P.info? T).map (·.size) = some 2) (hx : ev l x = some (.pointer (some ⟨b, 0, none⟩))) :
    Vs P n l ⟨some d, .convert t t2 x, ty, pos, af, none⟩ w (.pointer (some ⟨b, 0, none⟩)) := fun c ha => by
  obtain ⟨j, hj, hjs⟩ := Option.map_eq_some_iff.1 ht
  have hb := H.blk U
  have h := Lib.run_to_unsafe (P := P) (src := t) (dst := t2) (e := T) (cells := 2) w ⟨b, 0, none⟩ hs hd hj (by rw [hjs]; decide) (by simp [World.shape?, hb, hl]) (Nat.zero_lt_succ 1)
  simp [execOp, ha.eval hx, h]
theorem v_uPtr {T : TypeId} (H : Holds W0 L w) (U : Upd L (Blk b T cs) (Blk b T cs) L) (hl : cs.length = 2) (hs : P.underlying t = some .unsafePointer) (hd : P.underlying t2 = some (.pointer T)) (ht : (P.info? T).map (·.size) = some 2) (hlies : liesAt P P.depth T (2 / P.cellsOf T) 0 T 1 = true) (hx : ev l x = some (.pointer (some ⟨b, 0, none⟩))) :
    Vs P n l ⟨some d, .convert t t2 x, ty, pos, af, none⟩ w (.pointer (some ⟨b, 0, none⟩)) := fun c ha => by
  obtain ⟨j, hj, hjs⟩ := Option.map_eq_some_iff.1 ht
  have hb := H.blk U
  have h := Lib.run_from_unsafe (P := P) (src := t) (dst := t2) (e := T) (cells := 2) w ⟨b, 0, none⟩ hs hd hj (by simp [World.shape?, hb, hl]) hlies
  simp [execOp, ha.eval hx, h]
/-- append(row of bytes, string...). -/
theorem wl_appStr {N : Nat} {s : ByteArray} {L' : Value → List Ch} (H : Holds W0 L w) (U : ∀ v', Upd L (Raw e 1 v N cs) (Raw e 1 v' (N + s.size) (cs ++ Lib.strCells s)) (L' v')) (hn : Nat.ble (d + 1) n = true)
    (ht : P.underlying t = some (.slice e)) (hu : P.underlying u = some .string) (hi : (P.info? e).map (fun i => (i.zero, i.size, i.bytes)) = some (some (.int .u8 0), 1, 1))
    (hs : ev l sx = some v) (hx : ev l x = some (.string s)) (hb : N + s.size ≤ 140737488355328)
    (h : ∀ A c w', Holds W0 (L' (.slice A (N + s.size) c)) w' → w.heap.size ≤ w'.heap.size → wl P n ops rest Q ((d, .slice A (N + s.size) c) :: l) w') : wl P n ops (⟨some d, .call { callee := .builtin .append, args := #[sx, x], argTypes := #[t, u] }, ty, pos, af, none⟩ :: rest) Q l w := by
  obtain ⟨i0, hi1, hi2⟩ := Option.map_eq_some_iff.1 hi
  simp only [Prod.mk.injEq] at hi2
  obtain ⟨g1, g2, g3⟩ := hi2
  obtain ⟨S, hS, ⟨hSv, hown⟩, hstep⟩ := H.upd (U v)
  have hrun : ∃ v1 w1, (Builtin.append_ #[t, u] ty #[v, .string s]).run P w = .ok v1 w1 ∧ w1.ownsRow 0 e 1 v1 (N + s.size) (cs ++ Lib.strCells s) ∧ w.grownBy w1 v.ownBlock ∧ (∀ k, v1.ownBlock = some k → v.ownBlock = some k ∨ w.heap.size ≤ k) := by
    obtain ⟨v1, w1, hr, h2, h3, h4⟩ := Lib.run_append_own_string (P := P) w 0 t u ty e i0 ht hu hi1 g1 g2 g3 v N cs hown s (by unfold maxLen; omega) hb (Nat.zero_le _)
    refine ⟨v1, w1, hr, h2, h3, fun k hk => ?_⟩
    rcases hown.2 with ⟨rfl, h0⟩ | ⟨g, cap, cur, rfl, _, hg, hnc, hcm, hcs, htake⟩
    · subst h0
      have hx0 : cs = [] := List.eq_nil_of_length_eq_zero (by simpa using hown.1)
      subst hx0
      obtain ⟨v2, w2, hr2, h22, _, _⟩ := Lib.run_append_own_string (P := P) w w.heap.size t u ty e i0 ht hu hi1 g1 g2 g3 (.slice none 0 0) 0 [] (World.ownsRow_nil _ _ _ _) s (by unfold maxLen; omega) hb (Nat.le_refl _)
      rw [hr] at hr2
      injection hr2 with e1 e2
      subst e1
      exact .inr (h22.lt k hk).1
    · have hcs' : cur.size = cap := by simpa using hcs
      have hxl : cs.length = N := by simpa using hown.1
      by_cases hroom : N + s.size ≤ cap
      · have hr2 := Lib.run_append_room_string (P := P) w t u ty e i0 ht hu hi1 g2 g N cap cur hg s hroom (by omega)
        rw [hr] at hr2
        injection hr2 with e1 e2
        subst e1
        exact .inl hk
      · have hr2 := Lib.run_append_grow_string (P := P) w t u ty e i0 (.int .u8 0) ht hu hi1 g1 ⟨g, 0, none⟩ N cap cs (by rw [g2]; simpa using hxl) (hown.cells (g := g) rfl) s (by omega) (by omega) (by rw [g3]; exact growslice_fits (by omega) (by omega))
        rw [hr] at hr2
        injection hr2 with e1 e2
        subst e1
        simp only [Value.ownBlock, Option.some.injEq] at hk
        exact .inr (by omega)
  obtain ⟨v1, w1, hr, hown1, hg, hat⟩ := hrun
  obtain ⟨A, c, rfl, _⟩ := own_slice hown1
  refine wl_v rfl rfl hn (w' := w1) (v := .slice A (N + s.size) c) (fun a ha => ?_) (h A c w1 ?_ hg.size)
  · simp [execOp, resolve, invoke, builtin, ha.eval hs, ha.eval hx, hr]
  · obtain ⟨S2, hS2, ⟨hSv2, hown2⟩, hstep2⟩ := H.upd (U (.slice A (N + s.size) c))
    refine hstep2 w1 (fun k => S2 k ∨ (w.heap.size ≤ k ∧ k < w1.heap.size)) hg.os hg.tape hg.output hg.size (fun k hk hn => hg.block k hk (fun e => hn (hSv2 k e.symm))) (fun k hk => hk) ⟨fun k hk => ?_, hown1⟩
    rcases hat k hk with hat | hat
    · exact .inl (hSv2 k hat)
    · exact .inr ⟨hat, (hown1.lt _ hk).2⟩
/-- append(row of bytes, byte). -/
theorem wl_appB {N b : Nat} {z uu : Value} {L' : Value → List Ch} (H : Holds W0 L w) (U : ∀ v', Upd L (Raw e 1 v N cs) (Raw e 1 v' (N + 1) (cs ++ [uu])) (L' v')) (UB : Upd L (Blk b e [uu]) (Blk b e [uu]) L) (h1 : uu.oneCell' = true) (hn : Nat.ble (d + 1) n = true)
    (ht : P.underlying t = some (.slice e)) (hi : (P.info? e).map (fun i => (i.zero, i.size, i.bytes)) = some (some z, 1, 1)) (hz : z.cells.size = 1)
    (hs : ev l sx = some v) (hx : ev l x = some (.slice (some ⟨b, 0, none⟩) 1 1)) (hb : N + 1 ≤ 140737488355328)
    (h : ∀ A c w', Holds W0 (L' (.slice A (N + 1) c)) w' → w.heap.size ≤ w'.heap.size → wl P n ops rest Q ((d, .slice A (N + 1) c) :: l) w') : wl P n ops (⟨some d, .call { callee := .builtin .append, args := #[sx, x], argTypes := #[t, t] }, ty, pos, af, none⟩ :: rest) Q l w := by
  refine wl_append (L' := L') (news := [uu]) H U hn ht hi hz (by omega) hs hx (fun _ => rfl) rfl (fun j u hu => H.ats UB j u hu) (fun u hu => by rw [List.mem_singleton.1 hu]; exact h1) (by omega) (by omega) fun v' w' H' hsz => ?_
  obtain ⟨_, _, ⟨_, ho⟩, _⟩ := H'.upd (U v').swap
  obtain ⟨A, c, rfl, _⟩ := own_slice ho
  exact h A c w' H' hsz
theorem v_data {A : Option Addr} {m c : Nat} (hA : c ≠ 0 ∨ A = none) (hx : ev l x = some (.slice A m c)) : Vs P n l ⟨some d, .call { callee := .builtin .unsafeSliceData, args := #[x], argTypes := #[t] }, ty, pos, af, none⟩ w (.pointer A) := fun a ha => by
  have h : (Builtin.unsafeSliceData_ #[t] ty #[.slice A m c]).run P w = .ok (.pointer A) w := by
    cases A with
    | none => rfl
    | some q => exact Lib.run_unsafeSliceData_row w #[t] ty q m c (hA.resolve_right (by simp))
  simp [execOp, resolve, invoke, builtin, ha.eval hx, h]
/-- The string of a row of bytes; the row is given up. -/
theorem wl_ustr {bs : List UInt8} {A : Option Addr} {c N : Nat} {et : TypeId} {L1 : List Ch} (H : Holds W0 L w) (D : Del L (Raw e 1 (.slice A N c) N (byC bs)) L1) (hN : N = bs.length) (hn : Nat.ble (d + 1) n = true) (hp : P.underlying t = some (.pointer e)) (hc : P.cellsOf e = 1)
    (hx : ev l sx = some (.pointer A)) (hy : ev l x = some (.int .i64 N))
    (h : ∀ w', Holds W0 L1 w' → wl P n ops rest Q ((d, .string ⟨bs.toArray⟩) :: l) w') : wl P n ops (⟨some d, .call { callee := .builtin .unsafeString, args := #[sx, x], argTypes := #[t, et] }, ty, pos, af, none⟩ :: rest) Q l w := by
  subst hN
  have H1 := H.turn D
  have H1' := H1
  obtain ⟨ho, S1, S2, h1, h2, h3, ⟨hSv, hown⟩, h5⟩ := H1
  by_cases h0 : bs = []
  · subst h0
    have hr : (Builtin.unsafeString_ #[t, et] ty #[.pointer A, .int .i64 0]).run P w = .ok (.string .empty) w := Lib.run_unsafeString_none (P := P) w t et ty A
    refine wl_v rfl rfl hn (w' := w) (v := .string ⟨#[]⟩) (fun a ha => ?_) (h w H1'.tail)
    have hr' : (Builtin.unsafeString_ #[t, et] ty #[.pointer A, .int .i64 0]).run P w = .ok (.string ⟨#[]⟩) w := hr
    have hy' : ev l x = some (.int .i64 0) := hy
    simp [execOp, resolve, invoke, builtin, ha.eval hx, ha.eval hy', hr']
  · have hl0 : bs.length ≠ 0 := by simpa using h0
    rcases hown.2 with ⟨_, hz⟩ | ⟨g, cap, cur, hv, _, hg, hnc, hcm, hcs, htake⟩
    · exact absurd hz hl0
    · injection hv with hA _ hcap
      subst hA hcap
      have hr : (Builtin.unsafeString_ #[t, et] ty #[.pointer (some ⟨g, 0, none⟩), .int .i64 bs.length]).run P w = .ok (.string ⟨bs.toArray⟩) (w.freeze ⟨g, 0, none⟩ bs.length) := by
        refine Lib.run_unsafeString_row (P := P) w t et ty e hp hc g cur.size (by simp [World.shape?, hg]) bs h0 (by omega) (by unfold maxLen at hcm; omega) fun j y hy => ?_
        exact hown.cells (g := g) rfl j (.int .u8 y.toNat) (by simp [Lib.byteCells, hy])
      refine wl_v rfl rfl hn (w' := w.freeze ⟨g, 0, none⟩ bs.length) (v := .string ⟨bs.toArray⟩) (fun a ha => by simp [execOp, resolve, invoke, builtin, ha.eval hx, ha.eval hy, hr]) (h _ ?_)
      have hS1 : S1 g := hSv g (by simp [Value.ownBlock])
      have hoth : ∀ k, k ≠ g → (w.freeze ⟨g, 0, none⟩ bs.length).heap[k]? = w.heap[k]? := fun k hk => by
        unfold World.freeze
        split
        · rfl
        · simp only [Array.getElem?_modify]
          rw [if_neg (fun e => hk e.symm)]
      have hb := Lib.below_freeze (B := g) (Below.refl g w) (p := ⟨g, 0, none⟩) (Nat.le_refl _) bs.length
      have hsz : (w.freeze ⟨g, 0, none⟩ bs.length).heap.size = w.heap.size := by
        unfold World.freeze
        split <;> simp
      refine ⟨ho.trans ⟨hb.os, hb.tape, hb.output, by rw [hsz]; exact Nat.le_refl _, fun k hk => hoth k (fun e => by have := (h1 g hS1).1; omega)⟩, ?_⟩
      refine HL.mono (fun k hk => ?_) (HL.st (fun k hk => hoth k (fun e => h3 g hS1 (e ▸ hk))) h5)
      have := h2 k hk
      exact ⟨this.1, by rw [hsz]; exact this.2⟩
end
end Go.Proofs.YtgdemplcpcacaaaFx

/-! Shifts. -/
namespace Go.Proofs.YtgdemplcpcacaaaFx
open Go Go.RowKit
/-- Several ways meet. -/
theorem wc_cut {P : Program} {n : Nat} {Q : Post} {l : Fr} {w : World} {σ : Type} {x y : Code} (fr : σ → Fr) (inv : σ → World → Prop) (h : wc P n x (thenQ (fun l' w' => ∃ s, Sub (fr s) l' ∧ inv s w') Q) l w) (k : ∀ s w, inv s w → wc P n y Q (fr s) w) : wc P n (.seq x y) Q l w :=
  wc_mid _ h fun _ _ ⟨s, hs, hi⟩ => wc_sub hs (k s _ hi)
section
variable {P : Program} {n : Nat} {l : Fr} {w : World} {x y : Operand} {ty t t2 : TypeId} {pos : String} {af : Array Edge} {gd : Option (Nat × Bool)} {dst : Option Tmp} {i j : Int} {k yk : IntKind}
theorem v_shr (hx : ev l x = some (.int k i)) (hy : ev l y = some (.int yk j)) (h0 : 0 ≤ j) (h1 : j ≤ k.bits) : Vs P n l ⟨dst, .binOp .shr t x y t2, ty, pos, af, gd⟩ w (.int k (i / 2 ^ j.toNat)) := fun a ha => by
  simp [execOp, ha.eval hx, ha.eval hy, eqGuard_shr, binOp_shr, shift_shr k yk i j h0 h1]
theorem v_shl (hx : ev l x = some (.int k i)) (hy : ev l y = some (.int yk j)) (h0 : 0 ≤ j) (h1 : j ≤ k.bits) : Vs P n l ⟨dst, .binOp .shl t x y t2, ty, pos, af, gd⟩ w (.int k (k.wrap (i * 2 ^ j.toNat))) := fun a ha => by
  simp [execOp, ha.eval hx, ha.eval hy, eqGuard_shl, binOp_shl, shift_shl k yk i j h0 h1]
theorem wrap_u {i : Int} (h : 0 ≤ i ∧ i ≤ 9223372036854775807) : IntKind.u64.wrap i = i := by
  have e1 : (2 ^ IntKind.u64.bits : Int) = 18446744073709551616 := rfl
  have e3 : IntKind.u64.signed = false := rfl
  unfold IntKind.wrap
  simp only [e1, e3, Bool.false_and, Bool.false_eq_true, if_false]
  omega
theorem v_toU (hs : P.underlying t = some (.int .i64)) (hd : P.underlying t2 = some (.int .u64)) (hx : ev l x = some (.int .i64 i)) (h : 0 ≤ i ∧ i ≤ 9223372036854775807) : Vs P n l ⟨dst, .convert t t2 x, ty, pos, af, gd⟩ w (.int .u64 i) := by
  have h1 := v_conv (P := P) (n := n) (w := w) (ty := ty) (pos := pos) (af := af) (gd := gd) (dst := dst) hs hd hx
  rwa [wrap_u h] at h1
theorem v_toI (hs : P.underlying t = some (.int .u64)) (hd : P.underlying t2 = some (.int .i64)) (hx : ev l x = some (.int .u64 i)) (h : 0 ≤ i ∧ i ≤ 9223372036854775807) : Vs P n l ⟨dst, .convert t t2 x, ty, pos, af, gd⟩ w (.int .i64 i) := by
  have h1 := v_conv (P := P) (n := n) (w := w) (ty := ty) (pos := pos) (af := af) (gd := gd) (dst := dst) hs hd hx
  rwa [IntWalk.i64_in _ (by omega)] at h1
theorem v_half (hx : ev l x = some (.int .u64 i)) (hy : ev l y = some (.int yk 1)) : Vs P n l ⟨dst, .binOp .shr t x y t2, ty, pos, af, gd⟩ w (.int .u64 (i / 2)) := v_shr hx hy (by decide) (by decide)
end
end Go.Proofs.YtgdemplcpcacaaaFx

/-! Pieces of texts: runes. -/
namespace Go.Proofs.YtgdemplcpcacaaaFx
open Go Go.RowKit
theorem at_lt (t : ByteArray) (k : Nat) : (t.get! k).toNat < 256 := (t.get! k).toNat_lt
theorem enc_size {r : Int} (hv : Utf8.valid r = true) : (Utf8.encode r).size = if r < 128 then 1 else if r < 2048 then 2 else if r < 65536 then 3 else 4 := by
  have hv2 := hv
  rw [validRune_eq] at hv2
  have h0 : 0 ≤ r := by
    have := of_decide_eq_true hv2
    omega
  unfold Utf8.encode
  simp only [hv, if_true]
  by_cases h1 : r < 128
  · have e1 : r.toNat < 128 := by omega
    simp only [e1, h1, if_true]; rfl
  · have e1 : ¬ r.toNat < 128 := by omega
    by_cases h2 : r < 2048
    · have e2 : r.toNat < 2048 := by omega
      simp only [e1, e2, h1, h2, if_true, if_false]; rfl
    · have e2 : ¬ r.toNat < 2048 := by omega
      by_cases h3 : r < 65536
      · have e3 : r.toNat < 65536 := by omega
        simp only [e1, e2, e3, h1, h2, h3, if_true, if_false]; rfl
      · have e3 : ¬ r.toNat < 65536 := by omega
        simp only [e1, e2, e3, h1, h2, h3, if_false]; rfl
theorem valid_iff (r : Int) : Utf8.valid r = true ↔ (0 ≤ r ∧ r < 55296) ∨ (57343 < r ∧ r ≤ 1114111) := by
  rw [validRune_eq]
  exact decide_eq_true_iff
/-- What decode finds: a rune that is one, which fits; or the mark of none. -/
theorem dec_fit (t : ByteArray) (h : 0 < t.size) : (Utf8.decode t 0).1 = 65533 ∨ (Utf8.valid (Utf8.decode t 0).1 = true ∧ (Utf8.encode (Utf8.decode t 0).1).size ≤ t.size) := by
  have hb := at_lt t
  have h0 := hb (0 + 0); have h1 := hb (0 + 1); have h2 := hb (0 + 2); have h3 := hb (0 + 3)
  have key : ∀ (c n : Nat), n ≤ t.size → Utf8.valid c = true → (if (c : Int) < 128 then 1 else if (c : Int) < 2048 then 2 else if (c : Int) < 65536 then 3 else 4) ≤ n → ((c = 65533) ∨ (Utf8.valid (c : Nat) = true ∧ (Utf8.encode (c : Nat)).size ≤ t.size)) := fun c n hn hv hle => .inr ⟨hv, by rw [enc_size hv]; exact Nat.le_trans hle hn⟩
  unfold Utf8.decode
  simp only [Utf8.runeError]
  split
  · rename_i g
    refine key _ 1 h ((valid_iff _).2 (.inl (by omega))) (by rw [if_pos (by omega)]; exact Nat.le_refl _)
  · split
    · rename_i g1 g2
      simp only [Bool.and_eq_true, beq_iff_eq, decide_eq_true_eq] at g2
      split
      · rename_i g3
        refine key _ 2 (by omega) ((valid_iff _).2 (.inl (by omega))) ?_
        rw [if_neg (by omega), if_pos (by omega)]; exact Nat.le_refl _
      · exact .inl rfl
    · split
      · rename_i g1 g2 g3
        simp only [Bool.and_eq_true, beq_iff_eq, decide_eq_true_eq] at g3
        split
        · rename_i g4
          simp only [Bool.and_eq_true, decide_eq_true_eq] at g4
          refine key _ 3 (by omega) (by simpa using g4.2) ?_
          rw [if_neg (by omega), if_neg (by omega), if_pos (by omega)]; exact Nat.le_refl _
        · exact .inl rfl
      · split
        · rename_i g1 g2 g3 g4
          simp only [Bool.and_eq_true, beq_iff_eq, decide_eq_true_eq] at g4
          split
          · rename_i g5
            simp only [Bool.and_eq_true, decide_eq_true_eq] at g5
            refine key _ 4 (by omega) (by simpa using g5.2) ?_
            rw [if_neg (by omega), if_neg (by omega), if_neg (by omega)]; exact Nat.le_refl _
          · exact .inl rfl
        · exact .inl rfl
/-- A text's beginning. -/
noncomputable def pre (s p : ByteArray) : Bool := dec (p.size ≤ s.size ∧ s.extract 0 p.size = p)
abbrev fffd : ByteArray := ⟨#[239, 191, 189]⟩
/-- The piece at a place, where there is one: its rune, its bytes, whether it is a rune's. -/
noncomputable def nxt (s : ByteArray) (i : Nat) : Int × Nat × Bool :=
  if (Utf8.decode (s.extract i s.size) 0).1 = 65533 ∧ pre (s.extract i s.size) fffd = false then (0, 1, false) else ((Utf8.decode (s.extract i s.size) 0).1, (Utf8.encode (Utf8.decode (s.extract i s.size) 0).1).size, true)
theorem nxt_fit {s : ByteArray} {i : Nat} (h : i < s.size) : 1 ≤ (nxt s i).2.1 ∧ i + (nxt s i).2.1 ≤ s.size ∧ (0 ≤ (nxt s i).1 ∧ (nxt s i).1 ≤ 1114111) := by
  have hsz : (s.extract i s.size).size = s.size - i := by rw [ByteArray.size_extract]; omega
  have hf := dec_fit (s.extract i s.size) (by omega)
  unfold nxt
  obtain ⟨c, hc⟩ : ∃ c, c = (Utf8.decode (s.extract i s.size) 0).1 := ⟨_, rfl⟩
  obtain ⟨t, ht⟩ : ∃ t, t = s.extract i s.size := ⟨_, rfl⟩
  rw [← hc, ← ht] at hf
  rw [← hc, ← ht]
  rw [← ht] at hsz
  clear hc ht
  split
  · exact ⟨Nat.le_refl _, by dsimp only; omega, by decide⟩
  · rename_i hn
    have hv : Utf8.valid (c : Int) = true ∧ (Utf8.encode c).size ≤ t.size := by
      rcases hf with h1 | h1
      · subst h1
        have hp : pre t fffd = true := by
          cases hp : pre t fffd
          · exact absurd ⟨rfl, hp⟩ hn
          · rfl
        have h2 : fffd.size ≤ t.size := (of_dec hp).1
        have h3 : (Utf8.encode ((65533 : Nat) : Int)).size = fffd.size := rfl
        exact ⟨rfl, by omega⟩
      · exact h1
    have he := enc_size hv.1
    have hr := (valid_iff _).1 hv.1
    have h1 : 1 ≤ (Utf8.encode c).size := by
      rw [he]
      split
      · omega
      · split
        · omega
        · split <;> omega
    refine ⟨?_, ?_, ?_⟩
    · dsimp only
      exact h1
    · dsimp only
      omega
    · dsimp only
      omega
section
variable {P : Program} {n : Nat} {Q : Post} {l : Fr} {w W0 : World} {L : List Ch} {ops : Array Oper} {rest : List Oper} {d : Nat} {x : Operand} {ty t : TypeId} {pos : String} {af : Array Edge}
/-- A loop over a text: its block, where it is. -/
def SI (r : Nat) (s : ByteArray) (i : Nat) : Ch where
  p := fun w S => S r ∧ w.heap[r]? = some (.stringIter s i)
  st := fun h hp => ⟨hp.1, (h r hp.1).trans hp.2⟩
theorem wl_rangeS {s : ByteArray} (H : Holds W0 L w) (hn : Nat.ble (d + 1) n = true) (ht : P.underlying t = some .string) (hx : ev l x = some (.string s))
    (h : ∀ r w', Holds W0 (SI r s 0 :: L) w' → wl P n ops rest Q ((d, .pointer (some ⟨r, 0, none⟩)) :: l) w') : wl P n ops (⟨some d, .range t x, ty, pos, af, none⟩ :: rest) Q l w :=
  wl_v rfl rfl hn (w' := w.iter s 0) (v := .pointer (some ⟨w.heap.size, 0, none⟩)) (fun a ha => by simp [execOp, ha.eval hx, run_range_string w t s ht])
    (h _ _ (H.push (below_alloc' w _) ⟨⟨Nat.le_refl _, by simp [World.iter]⟩, World.iter_heap w s 0⟩))
theorem wl_nextS {r i : Nat} {s : ByteArray} {L' : List Ch} (H : Holds W0 L w) (U : Upd L (SI r s i) (SI r s (i + (Utf8.decode s i).2)) L') (hi : i < s.size) (hn : Nat.ble (d + 1) n = true) (hx : ev l x = some (.pointer (some ⟨r, 0, none⟩)))
    (h : ∀ w', Holds W0 L' w' → wl P n ops rest Q ((d, .tuple #[.bool true, .int .i64 i, .int .i32 (Utf8.decode s i).1]) :: l) w') : wl P n ops (⟨some d, .next x true, ty, pos, af, none⟩ :: rest) Q l w := by
  obtain ⟨S, hS, ⟨hSr, hr⟩, hstep⟩ := H.upd U
  refine wl_v rfl rfl hn (w' := w.iterAt r s (i + (Utf8.decode s i).2)) (v := .tuple #[.bool true, .int .i64 i, .int .i32 (Utf8.decode s i).1]) (fun a ha => by simp [execOp, ha.eval hx, Lib.run_next_any_at w r s i ty hr hi]) (h _ ?_)
  have hb := Lib.below_iterAt (Below.refl r w) (Nat.le_refl r) s (i + (Utf8.decode s i).2)
  exact hstep _ S hb.os hb.tape hb.output (by rw [Lib.iterAt_size]; exact Nat.le_refl _) (fun k hk hn => Lib.iterAt_other w r k s _ (fun e => hn (e ▸ hSr))) (fun k hk => .inl hk) ⟨hSr, Lib.iterAt_heap w r s i _ hr⟩
theorem v_convS {k : IntKind} {r : Int} {t2 : TypeId} (hs : (P.underlying t).isSome = true) (hd : P.underlying t2 = some .string) (hx : ev l x = some (.int k r)) : Vs P n l ⟨some d, .convert t t2 x, ty, pos, af, none⟩ w (.string (Utf8.encode r)) := fun a ha => by
  simp [execOp, ha.eval hx, run_convert_int_string w t t2 k r hs hd]
end
abbrev hexs : ByteArray := ⟨#[48, 49, 50, 51, 52, 53, 54, 55, 56, 57, 97, 98, 99, 100, 101, 102]⟩
def hexd (q : Nat) : UInt8 := hexs.data.getD q 0
def byA (s : ByteArray) (i : Nat) : Nat := (s.data.getD i 0).toNat
theorem byA_lt (s : ByteArray) (i : Nat) : byA s i < 256 := (s.data.getD i 0).toNat_lt
/-- What a piece becomes within quotes. -/
noncomputable def qpart (s : ByteArray) (i : Nat) : List UInt8 :=
  if (nxt s i).1 = 10 then [92, 110] else if (nxt s i).1 = 9 then [92, 116] else if (nxt s i).1 = 13 then [92, 114] else if (nxt s i).1 = 34 then [92, 34] else if (nxt s i).1 = 92 then [92, 92]
  else if (nxt s i).2.2 = false ∨ (nxt s i).1 < 32 ∨ (nxt s i).1 = 127 then [92, 120, hexd (byA s i / 16), hexd (byA s i % 16)] else (s.extract i (i + (nxt s i).2.1)).data.toList
noncomputable def qb (s : ByteArray) (i : Nat) : List UInt8 := if h : i < s.size then qpart s i ++ qb s (i + (nxt s i).2.1) else []
termination_by s.size - i
decreasing_by have := (nxt_fit h).1; omega
theorem qb_step {s : ByteArray} {i : Nat} (h : i < s.size) : qb s i = qpart s i ++ qb s (i + (nxt s i).2.1) := by rw [qb, dif_pos h]
theorem qb_end {s : ByteArray} {i : Nat} (h : ¬ i < s.size) : qb s i = [] := by rw [qb, dif_neg h]
theorem qpart_len {s : ByteArray} {i : Nat} (h : i < s.size) : (qpart s i).length ≤ 4 * (nxt s i).2.1 := by
  obtain ⟨h1, h2, _⟩ := nxt_fit h
  have he : (s.extract i (i + (nxt s i).2.1)).data.toList.length = (nxt s i).2.1 := by
    rw [Array.length_toList]
    have h3 : (s.extract i (i + (nxt s i).2.1)).size = (nxt s i).2.1 := by rw [ByteArray.size_extract]; omega
    exact h3
  unfold qpart
  repeat' split
  all_goals first | (rw [he]; omega) | (simp only [List.length_cons, List.length_nil]; omega)
/-- A text's quote, and whether it is too long. -/
noncomputable def qv (s : ByteArray) : ByteArray := if s.size ≤ 4096 then ⟨(34 :: qb s 0 ++ [34]).toArray⟩ else ⟨#[]⟩
def qe (s : ByteArray) : Int := if s.size ≤ 4096 then 0 else 3
section
variable {P : Program} {n : Nat} {l : Fr} {w : World} {x y : Operand} {ty t t2 : TypeId} {pos : String} {af : Array Edge} {gd : Option (Nat × Bool)} {dst : Option Tmp} {q : Nat} {yk : IntKind}
theorem v_shrU (hx : ev l x = some (.int .u8 (q : Int))) (hy : ev l y = some (.int yk 4)) : Vs P n l ⟨dst, .binOp .shr t x y t2, ty, pos, af, gd⟩ w (.int .u8 ((q / 16 : Nat) : Int)) := by
  have h := v_shr (P := P) (n := n) (w := w) (ty := ty) (t := t) (t2 := t2) (pos := pos) (af := af) (gd := gd) (dst := dst) hx hy (by decide) (by decide)
  rwa [show ((q : Int) / 2 ^ (4 : Int).toNat) = ((q / 16 : Nat) : Int) by simp] at h
theorem v_andU (hq : q < 256) (hx : ev l x = some (.int .u8 (q : Int))) (hy : ev l y = some (.int .u8 15)) : Vs P n l ⟨dst, .binOp .and t x y t2, ty, pos, af, gd⟩ w (.int .u8 ((q % 16 : Nat) : Int)) := fun a ha => by
  have h2 : bits .and .u8 (q : Int) 15 = (q : Int) % 16 := bits_mask .u8 8 (by decide) wraps_u8 4 (by decide) (q : Int) (by omega) (by omega)
  have h3 : ((q : Int) % 16) = ((q % 16 : Nat) : Int) := by omega
  simp only [execOp, ha.eval hx, ha.eval hy, eqGuard_at_int, binOp_and, intBits_and, Sem.run_bind, Sem.run_pure, Result.andThen_ok, h2.trans h3]
theorem res3 {fn : Func} {a b c : Tmp} {v1 v2 v3 : Value} (hr : fn.results = #[.tmp a, .tmp b, .tmp c]) (h1 : lk l a = some v1) (h2 : lk l b = some v2) (h3 : lk l c = some v3) : Res P n l w fn (.tuple #[v1, v2, v3]) := fun A hA => by
  rw [results_tmp3 hr, Array.getD_eq_getD_getElem?, Array.getD_eq_getD_getElem?, Array.getD_eq_getD_getElem?, hA.at_ _ _ h1, hA.at_ _ _ h2, hA.at_ _ _ h3]
  rfl
end
end Go.Proofs.YtgdemplcpcacaaaFx
