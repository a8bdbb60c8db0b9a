/- Rows of the call's own: read, stored into, made; calls without a body. Equality of structs of numbers. Tables as plain data. Rows of rows of the call's own. A region that draws its order: first what yields the same wherever S holds, then the rest in the text's order. Trees that are read: a struct whose last field are its kids. Grammars as plain data. Inner rows of rows of the call's own: one at a time; appends whose result is dropped. When a table is sound for a grammar: plainly. Inner rows of rows of the call's own that grow; rows of empty rows. Steps laid down: what is known on the way. Sets of states as maps; steps back. -/
import Derived.Test.YtkpehkadammppaaK01
import Derived.Laws.MakeOwn
import Derived.Laws.StructEq
import Derived.OrdersHeld
set_option linter.unusedVariables false
/-! Rows of the call's own: read, stored into, made; calls without a body. -/
namespace Go.Proofs.YtkpehkadammppaaFx
open Go Go.RowKit
section
variable {α : Type} {f : Fk α} {w w' W0 : World} {A : Option Addr} {xs : List α} {L L' : List Ch} {e n c : Nat} {v : Value}
theorem Holds.rrd (H : Holds W0 L w) (U : Upd L (Row f e (.slice A n c) xs) (Row f e (.slice A n c) xs) L) : Rd f.kn w A xs := (rd_of_own (H.raw U)).2.2
theorem Holds.rlen (H : Holds W0 L w) (U : Upd L (Row f e (.slice A n c) xs) (Row f e (.slice A n c) xs) L) : n = xs.length := (rd_of_own (H.raw U)).1
theorem Holds.rcap (H : Holds W0 L w) (U : Upd L (Row f e (.slice A n c) xs) (Row f e (.slice A n c) xs) L) : xs.length ≤ c := (rd_of_own (H.raw U)).2.1
theorem Holds.rmax (H : Holds W0 L w) (U : Upd L (Row f e v xs) (Row f e v xs) L) : xs.length ≤ maxLen := own_max (H.raw U)
/-- A row's value is a slice. -/
theorem Holds.rform (H : Holds W0 L w) (U : Upd L (Row f e v xs) (Row f e v xs) L) : ∃ A c, v = .slice A xs.length c := by
  obtain ⟨A, c, h, _, _⟩ := H.row U
  exact ⟨A, c, h⟩
theorem put_splice : ∀ (cs : List Value) (off : Nat) (vs : List Value), off + vs.length ≤ cs.length → Put cs off vs (cs.take off ++ vs ++ cs.drop (off + vs.length))
  | cs, 0, [], _ => by simpa using Put.nil cs
  | [], 0, v :: vs, h => by simp at h
  | c :: cs, 0, v :: vs, h => by
    have := put_splice cs 0 vs (by simp at h ⊢; omega)
    simp only [List.take_zero, List.nil_append, Nat.zero_add] at this ⊢
    rw [List.length_cons, List.drop_succ_cons]
    exact .here v this
  | [], off + 1, vs, h => by simp at h
  | c :: cs, off + 1, vs, h => by
    have := put_splice cs off vs (by simp at h; omega)
    rw [List.take_succ_cons, show off + 1 + vs.length = (off + vs.length) + 1 by omega, List.drop_succ_cons]
    exact .there this
theorem flat_splice (f : Fk α) : ∀ (xs : List α) (j : Nat) (x : α), j < xs.length → (xs.flatMap f.enc).take (j * f.sz) ++ f.enc x ++ (xs.flatMap f.enc).drop (j * f.sz + f.sz) = (xs.set j x).flatMap f.enc
  | [], j, x, h => by simp at h
  | y :: r, 0, x, _ => by
    have h := f.len y
    rw [List.flatMap_cons, List.set_cons_zero, List.flatMap_cons, Nat.zero_mul, List.take_zero, List.nil_append, Nat.zero_add, ← h, List.drop_left]
  | y :: r, j + 1, x, hj => by
    have h := f.len y
    have e1 : (j + 1) * f.sz = (f.enc y).length + j * f.sz := by rw [h, Nat.add_mul, Nat.one_mul, Nat.add_comm]
    rw [List.flatMap_cons, List.set_cons_succ, List.flatMap_cons, e1, List.take_append, List.take_of_length_le (by omega), show (f.enc y).length + j * f.sz - (f.enc y).length = j * f.sz by omega, Nat.add_assoc, List.drop_append, List.drop_of_length_le (by omega), List.nil_append,
      show (f.enc y).length + (j * f.sz + f.sz) - (f.enc y).length = j * f.sz + f.sz by omega, List.append_assoc, List.append_assoc, ← List.append_assoc (List.take _ _), flat_splice f r j x (by simpa using hj)]
end
theorem take_splice (cs vs : List Value) (a b N : Nat) (hb : vs.length = b) (h : a + b ≤ N) (hN : N ≤ cs.length) : (cs.take a ++ vs ++ cs.drop (a + b)).take N = (cs.take N).take a ++ vs ++ (cs.take N).drop (a + b) := by
  subst hb
  have h1 : (cs.take a).length = a := by rw [List.length_take]; omega
  rw [List.append_assoc, List.append_assoc, List.take_append, h1, List.take_append, List.take_of_length_le (by omega), List.take_of_length_le (l := vs) (by omega), List.take_take, Nat.min_eq_left (by omega), List.drop_take]
  congr 3
  omega
section
variable {α : Type} {f : Fk α} {P : Program} {n : Nat} {Q : Post} {l : Fr} {w W0 : World} {L L' : List Ch} {ops : Array Oper} {rest : List Oper} {d : Nat} {x y : Operand} {ty t e : TypeId} {pos : String} {af : Array Edge} {v : Value} {A : Option Addr} {m c : Nat} {i : Int} {xs : List α} {x' : α}
/-- A store of a whole element into a row of the call's own. -/
theorem wl_storeR (H : Holds W0 L w) (U : Upd L (Row f e (.slice A m c) xs) (Row f e (.slice A m c) (xs.set i.toNat x')) L') (hsz : ∀ W, (sizeOf t).run P W = .ok f.sz W) (hx : ev l x = some (.pointer (some ((adr A).add (i.toNat * f.sz))))) (hy : ev l y = some v) (hc : v.cells = (f.enc x').toArray) (h0 : 0 ≤ i) (h1 : i < xs.length)
    (h : ∀ w', Holds W0 L' w' → wl P n ops rest Q l w') : wl P n ops (⟨none, .store t x y, ty, pos, af, none⟩ :: rest) Q l w := by
  obtain ⟨S, hS, ⟨hSv, hown⟩, hstep⟩ := H.upd U
  have hlt : i.toNat < xs.length := by omega
  have hm : m = xs.length := (rd_of_own hown).1
  subst hm
  rcases hown.2 with ⟨hnil, hz⟩ | ⟨g, cap, cur, hv, _, hh, hnc, hcm, hsz2, hcur⟩
  · omega
  · injection hv with hA _ hcap
    subst hA hcap
    have hfl := flat_len f xs
    have hcl : cur.toList.length = c * f.sz := by simpa using hsz2
    have hle : xs.length * f.sz ≤ cur.toList.length := by rw [hcl]; exact Nat.mul_le_mul_right _ hnc
    have hoff : i.toNat * f.sz + f.sz ≤ xs.length * f.sz := by rw [← Nat.succ_mul]; exact Nat.mul_le_mul_right _ hlt
    obtain ⟨w', hr, g1, g2, g3, g4, g5, g6⟩ := run_storeCells_blk (P := P) (b := g) (t := e) (off := i.toNat * f.sz) (f.enc x') 0 w cur.toList _ (by simpa using hh) (put_splice cur.toList _ _ (by rw [f.len]; omega)) (f.one x')
    refine wl_s (w' := w') rfl rfl (fun a ha => ?_) (h w' (hstep w' S g4 g5 g6 (by omega) (fun k hk hn => g2 k (fun e => hn (e ▸ hSv g (by simp [Value.ownBlock])))) (fun k hk => .inl hk) ⟨hSv, ?_⟩))
    · simp [execOp, ha.eval hx, ha.eval hy, Instr.storeAt, Instr.sureAddr, storeVar, hsz, hc, f.len, adr, Addr.add_lit, hr]
    · refine ⟨by rw [flat_len, List.length_set], .inr ⟨g, c, _, by rw [List.length_set], Nat.zero_le _, g1, by rw [List.length_set]; exact hnc, hcm, ?_, ?_⟩⟩
      · simp only [List.size_toArray, List.length_append, List.length_take, List.length_drop, f.len, hcl]
        rw [hcl] at hle
        omega
      · rw [List.length_set, ← flat_splice f xs i.toNat x' hlt, ← hcur]
        exact take_splice cur.toList (f.enc x') (i.toNat * f.sz) _ _ rfl (by rw [f.len]; exact hoff) hle |>.trans (by rw [f.len])
theorem made_flat (f : Fk α) (z : Value) (z' : α) (hz : z.cells = (f.enc z').toArray) (hs0 : 0 < f.sz) (N : Nat) : (madeCells z.cells (N * f.sz)).toList = (List.replicate N z').flatMap f.enc := by
  rw [hz]
  have hsz : (f.enc z').toArray.size = f.sz := by simp [f.len]
  apply List.ext_getElem?
  intro j
  by_cases hj : j < N * f.sz
  · have hq : j / f.sz < N := (Nat.div_lt_iff_lt_mul hs0).2 hj
    have hr : j % f.sz < f.sz := Nat.mod_lt _ hs0
    have e1 := flat_get f (List.replicate N z') (j / f.sz) z' (by rw [List.getElem?_replicate, if_pos hq]) (j % f.sz) _ (List.getElem?_eq_getElem (by rw [f.len]; exact hr))
    rw [show j / f.sz * f.sz + j % f.sz = j from Nat.div_add_mod' j f.sz] at e1
    rw [e1]
    simp only [madeCells, Array.toList_map, Array.toList_range, List.getElem?_map, List.getElem?_range hj, Option.map_some, hsz]
    congr 1
    simp [f.len, hr]
  · rw [List.getElem?_eq_none (by simp [madeCells]; omega), List.getElem?_eq_none (by rw [flat_len]; simp; omega)]
/-- make([]T, n). -/
theorem wl_make {z : Value} {z' : α} {bytes : Nat} {q : Int} (H : Holds W0 L w) (hn : Nat.ble (d + 1) n = true) (ht : P.underlying t = some (.slice e)) (hi : (P.info? e).map (fun i => (i.zero, i.size, i.bytes)) = some (some z, f.sz, bytes)) (hz : z.cells = (f.enc z').toArray) (hs0 : 0 < f.sz)
    (hx : ev l x = some (.int .i64 q)) (hy : ev l y = some (.int .i64 q)) (h0 : 0 ≤ q) (hb : q * bytes ≤ 140737488355328) (hb0 : 0 < bytes)
    (h : ∀ A w', Holds W0 (Row f e (.slice A q.toNat q.toNat) (List.replicate q.toNat z') :: L) w' → w.heap.size ≤ w'.heap.size → wl P n ops rest Q ((d, .slice A q.toNat q.toNat) :: l) w') : wl P n ops (⟨some d, .makeSlice t x y, ty, pos, af, none⟩ :: rest) Q l w := by
  obtain ⟨i0, hi1, hi2⟩ := Option.map_eq_some_iff.1 hi
  simp only [Prod.mk.injEq] at hi2
  obtain ⟨g1, g2, g3⟩ := hi2
  obtain ⟨N, rfl⟩ := Int.eq_ofNat_of_zero_le h0
  have hN : N ≤ 140737488355328 := by
    have h2 : (N : Int) * 1 ≤ (N : Int) * bytes := Int.mul_le_mul_of_nonneg_left (by omega) (by omega)
    omega
  have hrun : (Instr.makeSlice t (.int .i64 (N : Int)) (.int .i64 (N : Int))).run P w = .ok (.slice (some ⟨w.heap.size, 0, none⟩) N N) (w.alloc (.cells (madeCells z.cells (N * f.sz)) e)) := by
    have h1 := run_make (P := P) w t e i0 z ht hi1 g1 .i64 .i64 (N : Int) N (by omega) (Int.le_refl _) (by rw [g3, Int.mul_comm]; exact Int.le_trans hb (by decide)) (by omega)
    rw [g2, Int.toNat_natCast] at h1
    exact h1
  refine wl_v rfl rfl hn (w' := w.alloc (.cells (madeCells z.cells (N * f.sz)) e)) (v := .slice (some ⟨w.heap.size, 0, none⟩) N N) (fun a ha => by simp [execOp, ha.eval hx, ha.eval hy, hrun]) ?_
  have := h (some ⟨w.heap.size, 0, none⟩) (w.alloc (.cells (madeCells z.cells (N * f.sz)) e)) ?_ (by simp)
  · simpa using this
  · refine H.push (below_alloc' w _) ⟨fun k hk => ?_, ?_⟩
    · have : w.heap.size = k := by simpa [Value.ownBlock] using hk
      subst this
      simp
    · have hl := made_flat f z z' hz hs0 N
      have := World.ownsRow_lit (base := 0) (e := e) (size := f.sz) w (madeCells z.cells (N * f.sz)) N (Nat.zero_le _) (by simp only [maxLen]; omega) (by simp [size_madeCells])
      rw [hl] at this
      simpa using this
theorem raw_row {α : Type} {f : Fk α} {e : TypeId} {v : Value} {xs ys : List α} {N : Nat} {cs : List Value} (hN : N = (xs ++ ys).length) (hcs : cs = (xs ++ ys).flatMap f.enc) : Raw e f.sz v N cs = Row f e v (xs ++ ys) := by subst hN hcs; rfl
/-- append(s, y). -/
theorem wl_app1 {z : Value} {bytes b : Nat} {cs : List Value} {y' : α} {sx : Operand} {L' : Value → List Ch} (H : Holds W0 L w) (U : ∀ v', Upd L (Row f e v xs) (Row f e v' (xs ++ [y'])) (L' v')) (UB : Upd L (Blk b e cs) (Blk b e cs) L) (hn : Nat.ble (d + 1) n = true)
    (ht : P.underlying t = some (.slice e)) (hi : (P.info? e).map (fun i => (i.zero, i.size, i.bytes)) = some (some z, f.sz, bytes)) (hz : z.cells.size = f.sz) (hs0 : 0 < f.sz)
    (hs : ev l sx = some v) (hx : ev l x = some (.slice (some ⟨b, 0, none⟩) 1 1)) (hcs : cs = f.enc y') (hb : (xs.length + 1) * bytes ≤ 140737488355328) (hb0 : 0 < bytes)
    (h : ∀ A c w', Holds W0 (L' (.slice A (xs ++ [y']).length c)) w' → w.heap.size ≤ w'.heap.size → wl P n ops rest Q ((d, .slice A (xs ++ [y']).length c) :: l) w') : wl P n ops (⟨some d, .call { callee := .builtin .append, args := #[sx, x], argTypes := #[t, t] }, ty, pos, af, none⟩ :: rest) Q l w := by
  subst hcs
  have hl : (f.enc y').length = 1 * f.sz := by rw [f.len, Nat.one_mul]
  have e1 : xs.flatMap f.enc ++ f.enc y' = (xs ++ [y']).flatMap f.enc := by simp
  refine wl_append (L' := L') (cs := xs.flatMap f.enc) (news := f.enc y') H (fun v' => ?_) hn ht hi hz hs0 hs hx (fun _ => rfl) hl (fun j u hu => ?_) (f.one y') hb hb0 (fun v' w' H' hsz => ?_)
  · rw [raw_row (xs := xs) (ys := [y']) (by simp) e1]
    exact U v'
  · exact H.ats UB j u hu
  · have hown : w'.ownsRow 0 e f.sz v' (xs ++ [y']).length ((xs ++ [y']).flatMap f.enc) := by
      obtain ⟨_, _, ⟨_, ho⟩, _⟩ := H'.upd (U v').swap
      exact ho
    obtain ⟨A, c, rfl, _, _, _⟩ := own_slice hown
    exact h A c w' H' hsz
/-- append(s, ys...), ys read. -/
theorem wl_appR {z : Value} {bytes c' : Nat} {ys : List α} {sx : Operand} {L' : Value → List Ch} (H : Holds W0 L w) (U : ∀ v', Upd L (Row f e v xs) (Row f e v' (xs ++ ys)) (L' v')) (hn : Nat.ble (d + 1) n = true)
    (ht : P.underlying t = some (.slice e)) (hi : (P.info? e).map (fun i => (i.zero, i.size, i.bytes)) = some (some z, f.sz, bytes)) (hz : z.cells.size = f.sz) (hs0 : 0 < f.sz)
    (hs : ev l sx = some v) (hx : ev l x = some (.slice A ys.length c')) (hr : Rd f.kn w A ys) (hb : (xs.length + ys.length) * bytes ≤ 140737488355328) (hb0 : 0 < bytes)
    (h : ∀ A c w', Holds W0 (L' (.slice A (xs ++ ys).length c)) w' → w.heap.size ≤ w'.heap.size → wl P n ops rest Q ((d, .slice A (xs ++ ys).length c) :: l) w') : wl P n ops (⟨some d, .call { callee := .builtin .append, args := #[sx, x], argTypes := #[t, t] }, ty, pos, af, none⟩ :: rest) Q l w := by
  have e1 : xs.flatMap f.enc ++ ys.flatMap f.enc = (xs ++ ys).flatMap f.enc := by simp
  refine wl_append (L' := L') (cs := xs.flatMap f.enc) (news := ys.flatMap f.enc) H (fun v' => ?_) hn ht hi hz hs0 hs hx hr.ad (flat_len f ys) (fun j u hu => ?_) (fun u hu => ?_) hb hb0 (fun v' w' H' hsz => ?_)
  · rw [raw_row (xs := xs) (ys := ys) (by simp) e1]
    exact U v'
  · have hj : j < ys.length * f.sz := by rw [← flat_len]; exact (List.getElem?_eq_some_iff.1 hu).1
    have hq : j / f.sz < ys.length := (Nat.div_lt_iff_lt_mul hs0).2 hj
    obtain ⟨cs, rfl, hc⟩ := hr.el (j / f.sz) _ (List.getElem?_eq_getElem hq)
    have hm : j % f.sz < (f.enc ys[j / f.sz]).length := by rw [f.len]; exact Nat.mod_lt _ hs0
    have e2 := flat_get f ys (j / f.sz) _ (List.getElem?_eq_getElem hq) (j % f.sz) _ (List.getElem?_eq_getElem hm)
    have e3 := hc (j % f.sz) _ (List.getElem?_eq_getElem hm)
    have e4 : j / f.sz * f.sz + j % f.sz = j := Nat.div_add_mod' j f.sz
    rw [e4, hu] at e2
    rw [← e2] at e3
    have e5 : j / f.sz * f.kn.sz + j % f.sz = j := e4
    rw [e5] at e3
    exact e3
  · obtain ⟨y', _, hy'⟩ := List.mem_flatMap.1 hu
    exact f.one y' u hy'
  · have hown : w'.ownsRow 0 e f.sz v' (xs ++ ys).length ((xs ++ ys).flatMap f.enc) := by
      obtain ⟨_, _, ⟨_, ho⟩, _⟩ := H'.upd (U v').swap
      exact ho
    obtain ⟨A, c, rfl, _, _, _⟩ := own_slice hown
    exact h A c w' H' hsz
/-- A call of a function without a body. -/
theorem wl_ext {fo : FuncId} {xs : List Operand} {vs : List Value} {ats : Array TypeId} {w' : World} (hx : evs l xs = some vs) (hn : Nat.ble (d + 1) n = true) (hrun : (callFunc fo vs.toArray).run P w = .ok (.value v) w')
    (h : wl P n ops rest Q ((d, v) :: l) w') : wl P n ops (⟨some d, .call { callee := .value (.func fo), args := xs.toArray, argTypes := ats }, ty, pos, af, none⟩ :: rest) Q l w := fun a ha => by
  refine wpList_plain rfl fun K hK => ?_
  unfold Oper.wp
  have hargs : xs.toArray.map a.eval = vs.toArray := by rw [List.map_toArray, ha.evals hx]
  have hr : (execOp a.eval ⟨some d, .call { callee := .value (.func fo), args := xs.toArray, argTypes := ats }, ty, pos, af, none⟩).run P w = .ok (.value v) w' := by
    simp only [execOp, resolve, Act.eval, Deferred.ofValue, Sem.run_bind, Sem.run_pure, Result.andThen_ok, invoke, hargs, Array.empty_append, Array.append_empty]
    exact hrun
  rw [hr, Oper.upon_value]
  exact hK _ _ (h _ (ha.put hn v))
theorem wl_extv {fo : FuncId} {fx : Operand} {first captured : List Value} {xs : List Operand} {vs : List Value} {ats : Array TypeId} {w' : World} (hf : ev l fx = some (.func (.func fo) first.toArray captured.toArray)) (hx : evs l xs = some vs) (hn : Nat.ble (d + 1) n = true) (hrun : (callFunc fo (first ++ vs ++ captured).toArray).run P w = .ok (.value v) w')
    (h : wl P n ops rest Q ((d, v) :: l) w') : wl P n ops (⟨some d, .call { callee := .value fx, args := xs.toArray, argTypes := ats }, ty, pos, af, none⟩ :: rest) Q l w := fun a ha => by
  refine wpList_plain rfl fun K hK => ?_
  unfold Oper.wp
  have hargs : xs.toArray.map a.eval = vs.toArray := by rw [List.map_toArray, ha.evals hx]
  have hr : (execOp a.eval ⟨some d, .call { callee := .value fx, args := xs.toArray, argTypes := ats }, ty, pos, af, none⟩).run P w = .ok (.value v) w' := by
    simp only [execOp, resolve, ha.eval hf, Deferred.ofValue, Sem.run_bind, Sem.run_pure, Result.andThen_ok, invoke, hargs, List.append_toArray]
    exact hrun
  rw [hr, Oper.upon_value]
  exact hK _ _ (h _ (ha.put hn v))
theorem v_iface {p : Value} {i : TypeId} (hc : (P.underlying t).map (fun k => match k with | .interface _ => false | _ => true) = some true) (hx : ev l x = some p) : Vs P n l ⟨some d, .makeInterface t x, ty, pos, af, none⟩ w (.iface t p) := fun a ha => by
  obtain ⟨k, hk, hk2⟩ := Option.map_eq_some_iff.1 hc
  have hu : (underlying t).run P w = .ok k w := run_underlying hk w
  cases k <;> simp_all [execOp, ha.eval hx, Instr.makeInterface, Result.andThen]
end
end Go.Proofs.YtkpehkadammppaaFx

/-! Equality of structs of numbers. -/
namespace Go.Proofs.YtkpehkadammppaaFx
open Go Go.RowKit
/-- Some statement's truth. -/
noncomputable def dec (p : Prop) : Bool := @decide p (Classical.propDecidable p)
theorem dec_t {p : Prop} (h : p) : dec p = true := by simp [dec, h]
theorem dec_f {p : Prop} (h : ¬ p) : dec p = false := by simp [dec, h]
theorem dec_iff {p q : Prop} (h : p ↔ q) : dec p = dec q := by rw [propext h]
theorem dec_eq {p : Prop} {b : Bool} (h : b = true ↔ p) : b = dec p := by
  cases b
  · exact (dec_f fun hp => by simpa using h.2 hp).symm
  · exact (dec_t (h.1 rfl)).symm
theorem of_dec {p : Prop} (h : dec p = true) : p := by
  rcases Classical.em p with hp | hp
  · exact hp
  · rw [dec_f hp] at h; exact absurd h (by simp)
theorem of_ndec {p : Prop} (h : dec p = false) : ¬ p := fun hp => by rw [dec_t hp] at h; exact absurd h (by simp)
section
variable {P : Program} {e : TypeId} {k' k : IntKind}
theorem eqf_step {d off : Nat} {f : Field} {fs : List Field} {xs ys : Array Value} {a b : Int} (he : P.underlying e = some (.int k')) (hf : (f.name != "_", f.type, f.offset) = (true, e, off)) (hx : xs[off]? = some (.int k a)) (hy : ys[off]? = some (.int k b)) (W : World) :
    (Op.eqFields (d + 1) xs ys (f :: fs)).run P W = if a = b then (Op.eqFields (d + 1) xs ys fs).run P W else .ok false W := by
  simp only [Prod.mk.injEq] at hf
  obtain ⟨h1, h2, h3⟩ := hf
  have hn : f.name ≠ "_" := by simpa using h1
  have hp : ∀ (cs : Array Value) (v : Value), cs[off]? = some v → (part f.type cs f.offset).run P W = .ok v W := fun cs v hv => by
    rw [h2, h3]
    have ha : (isAgg e).run P W = .ok false W := by
      simp only [isAgg, Sem.run_bind, run_underlying he, Result.andThen_ok]
      rfl
    simp [part, ha, hv, Result.andThen]
  rw [Op.eqFields, if_pos hn]
  simp only [Sem.run_bind, hp _ _ hx, hp _ _ hy, Result.andThen_ok]
  rw [h2, run_equalIn_int W d e k k' a b he]
  simp only [Result.andThen_ok]
  by_cases hab : a = b
  · simp [hab]
  · simp [hab]
def EqlMv (P : Program) (t : TypeId) : Prop := P.eqGuardType P.depth t = false ∧ ∀ (W : World) (x y : Mv), (Op.equalIn 10000 t (.agg (fMv.enc x).toArray) (.agg (fMv.enc y).toArray)).run P W = .ok (decide (x = y)) W
theorem eql_mv {t : TypeId} {f0 f1 : Field} (ht' : P.underlying t = some (.struct #[f0, f1])) (hp : P.stoodInHeld t = false) (hg : P.eqGuardType P.depth t = false) (he : P.underlying e = some (.int k')) (h0 : (f0.name != "_", f0.type, f0.offset) = (true, e, 0)) (h1 : (f1.name != "_", f1.type, f1.offset) = (true, e, 1)) : EqlMv P t := by
  have hf0 : P.fieldsOf t = #[f0, f1] := by simp only [Program.fieldsOf, ht']
  have ht : P.underlying t = some (.struct (P.fieldsOf t)) := by rw [hf0]; exact ht'
  have hf : (P.fieldsOf t).toList = [f0, f1] := by rw [hf0]
  refine ⟨hg, fun W x y => ?_⟩
  rw [run_equalIn_struct W 9999 t _ _ ht hp, hf, eqf_step (d := 9998) (off := 0) (k := .i64) (a := x.d) (b := y.d) he h0 rfl rfl, eqf_step (d := 9998) (off := 1) (k := .i64) (a := x.n) (b := y.n) he h1 rfl rfl]
  obtain ⟨a, b⟩ := x
  obtain ⟨c, d⟩ := y
  by_cases hac : a = c <;> by_cases hbd : b = d <;> simp [hac, hbd, Op.eqFields]
variable {n : Nat} {l : Fr} {w : World} {d : Nat} {x y : Operand} {ty t t2 : TypeId} {pos : String} {af : Array Edge} {a b : Mv}
theorem v_eqlm (hE : EqlMv P t) (hx : ev l x = some (.agg (fMv.enc a).toArray)) (hy : ev l y = some (.agg (fMv.enc b).toArray)) : Vs P n l ⟨some d, .binOp .eql t x y t2, ty, pos, af, none⟩ w (.bool (decide (a = b))) := fun c hc => by
  simp [execOp, hc.eval hx, hc.eval hy, run_eqGuard_agg w _ t x y _ _ hE.1, run_eql_struct, hE.2, Result.andThen]
theorem v_neqm (hE : EqlMv P t) (hx : ev l x = some (.agg (fMv.enc a).toArray)) (hy : ev l y = some (.agg (fMv.enc b).toArray)) : Vs P n l ⟨some d, .binOp .neq t x y t2, ty, pos, af, none⟩ w (.bool (!decide (a = b))) := fun c hc => by
  simp [execOp, hc.eval hx, hc.eval hy, run_eqGuard_agg w _ t x y _ _ hE.1, run_neq_struct, hE.2, Result.andThen]
end
end Go.Proofs.YtkpehkadammppaaFx

/-! Tables as plain data. -/
namespace Go.Proofs.YtkpehkadammppaaFx
open Go Go.RowKit
theorem eq_step {α : Type} {xs ys : List α} {i : Nat} (z : α) (h : xs.take i = ys.take i) (hl : (xs.length : Int) = ys.length) (hi : i < xs.length) (he : xs.getD i z = ys.getD i z) : xs.take (i + 1) = ys.take (i + 1) := by
  rw [take_succ' z hi, take_succ' z (by omega), h, he]
theorem eq_done {α : Type} {xs ys : List α} {i : Nat} (h : xs.take i = ys.take i) (hl : (xs.length : Int) = ys.length) (hi : ¬ ((i : Int) < xs.length)) : xs = ys := by
  rwa [take_all hi, take_all (by omega)] at h
theorem ne_at {α : Type} {xs ys : List α} {i : Nat} {z : α} (h : xs.getD i z ≠ ys.getD i z) : xs ≠ ys := fun e => h (by rw [e])
theorem ne_len {α : Type} {xs ys : List α} (h : ¬ ((xs.length : Int) = ys.length)) : xs ≠ ys := fun e => h (by rw [e])
section
variable {α : Type} {f : Fk α} {d : Kn α} {w : World} {A : Option Addr} {i : Nat}
theorem Rd.atN {xs : List α} (h : Rd f.kn w A xs) (z : α) (h1 : i < xs.length) {k : Nat} {u : Value} (hu : (f.enc (xs.getD i z))[k]? = some u) : w.cell? (((adr A).add ((i : Int).toNat * f.sz)).add k) = some u := h.at z (i := (i : Int)) (by omega) (by omega) hu
theorem Rd.at1N {k : IntKind} {xs : List Int} (h : Rd (kInt k) w A xs) (h1 : i < xs.length) : w.cell? ((adr A).add ((i : Int).toNat * 1)) = some (.int k (xs.getD i 0)) := h.at1 (i := (i : Int)) (by omega) (by omega)
theorem Rd.at1sN {xs : List ByteArray} (h : Rd kStr w A xs) (h1 : i < xs.length) : w.cell? ((adr A).add ((i : Int).toNat * 1)) = some (.string (xs.getD i ByteArray.empty)) := h.at1s (i := (i : Int)) (by omega) (by omega)
theorem Rd.at1bN {xs : List Bool} (h : Rd kBool w A xs) (h1 : i < xs.length) : w.cell? ((adr A).add ((i : Int).toNat * 1)) = some (.bool (xs.getD i false)) := h.at1b (i := (i : Int)) (by omega) (by omega)
theorem Rd.atSlN {xs : List (List α)} (h : Rd d.sl w A xs) (h1 : i < xs.length) : ∃ B c, w.cell? ((adr A).add ((i : Int).toNat * 1)) = some (.slice B (xs.getD i []).length c) ∧ (xs.getD i []).length ≤ c ∧ Rd d w B (xs.getD i []) := h.atSl (i := (i : Int)) (by omega) (by omega)
end
/-- A table. -/
structure Tb where
  mv : List (List Mv)
  go : List (List Int)
  deriving DecidableEq
structure Tb.ok (t : Tb) : Prop where
  m : t.mv.length ≤ 1099511627776
  g : t.go.length ≤ 1099511627776
  mr : ∀ r ∈ t.mv, r.length ≤ 1099511627776 ∧ ∀ m ∈ r, I64 m.d ∧ I64 m.n
  gr : ∀ r ∈ t.go, r.length ≤ 1099511627776 ∧ ∀ x ∈ r, I64 x
abbrev Tb.val (t : Tb) (A B : Option Addr) (ca cb : Nat) : Value := .agg #[.slice A t.mv.length ca, .slice B t.go.length cb]
structure Tb.rd (t : Tb) (w : World) (A B : Option Addr) : Prop where
  m : Rd fMv.kn.sl w A t.mv
  g : Rd (kInt .i64).sl w B t.go
theorem Tb.rd.below {t : Tb} {w w' : World} {A B : Option Addr} (h : t.rd w A B) (hb : Below w.heap.size w w') : t.rd w' A B := ⟨h.m.below hb, h.g.below hb⟩
theorem Tb.ok.ml {t : Tb} (h : t.ok) {i : Nat} (hi : i < t.mv.length) : (t.mv.getD i []).length ≤ 1099511627776 := (h.mr _ (getD_mem hi)).1
theorem Tb.ok.gl {t : Tb} (h : t.ok) {i : Nat} (hi : i < t.go.length) : (t.go.getD i []).length ≤ 1099511627776 := (h.gr _ (getD_mem hi)).1
theorem Tb.ok.m' {t : Tb} (h : t.ok) : t.mv.length ≤ 1099511627776 := h.m
theorem Tb.ok.g' {t : Tb} (h : t.ok) : t.go.length ≤ 1099511627776 := h.g
/-- All states have a row of each sort, as long as the first state's. -/
def Rect (t : Tb) : Prop := 0 < t.mv.length ∧ 0 < (t.mv.getD 0 []).length ∧ t.go.length = t.mv.length ∧ ∀ s, s < t.mv.length → (t.mv.getD s []).length = (t.mv.getD 0 []).length ∧ (t.go.getD s []).length = (t.go.getD 0 []).length
theorem upto_succ {p : Nat → Prop} {i : Nat} (h : ∀ s, s < i → p s) (hi : p i) : ∀ s, s < i + 1 → p s := fun s hs => by
  rcases Nat.lt_or_eq_of_le (Nat.le_of_lt_succ hs) with h1 | rfl
  · exact h s h1
  · exact hi
theorem upto_zero {p : Nat → Prop} : ∀ s, s < 0 → p s := fun s hs => absurd hs (Nat.not_lt_zero s)
/-- A move a table of n states and pr productions may have. -/
def mvOk (m : Mv) (n pr : Int) : Prop := (m.d = 1 ∧ 0 ≤ m.n ∧ m.n < n) ∨ (m.d = 2 ∧ 0 ≤ m.n ∧ m.n < pr) ∨ ((m.d = 0 ∨ m.d = 3) ∧ m.n = 0)
def goOk (x n : Int) : Prop := -1 ≤ x ∧ x < n
/-- A state's rows. -/
def rowOk (t : Tb) (k r p : Int) (s : Nat) : Prop := ((t.mv.getD s []).length : Int) = k ∧ ((t.go.getD s []).length : Int) = r ∧ (∀ j, j < (t.mv.getD s []).length → mvOk ((t.mv.getD s []).getD j mv0) t.mv.length p) ∧ ∀ j, j < (t.go.getD s []).length → goOk ((t.go.getD s []).getD j 0) t.mv.length
def TGood (t : Tb) (k r p : Int) : Prop := 1 ≤ t.mv.length ∧ t.mv.length ≤ 4096 ∧ t.go.length = t.mv.length ∧ ∀ s, s < t.mv.length → rowOk t k r p s
/-- What the checks of a table answer. -/
noncomputable def checkF (t : Tb) (k r p : Int) : Int := if dec (k < 2 ∨ r < 0 ∨ p < 0) then 1 else if dec (TGood t k r p) then 0 else 170
theorem checkF_arg {t : Tb} {k r p : Int} (h : k < 2 ∨ r < 0 ∨ p < 0) : checkF t k r p = 1 := by rw [checkF, dec_t h]; rfl
theorem checkF_bad {t : Tb} {k r p : Int} (h : ¬ (k < 2 ∨ r < 0 ∨ p < 0)) (h2 : ¬ TGood t k r p) : checkF t k r p = 170 := by rw [checkF, dec_f h, dec_f h2]; rfl
theorem checkF_ok {t : Tb} {k r p : Int} (h : ¬ (k < 2 ∨ r < 0 ∨ p < 0)) (h2 : TGood t k r p) : checkF t k r p = 0 := by rw [checkF, dec_f h, dec_t h2]; rfl
end Go.Proofs.YtkpehkadammppaaFx

/-! Rows of rows of the call's own. -/
namespace Go.Proofs.YtkpehkadammppaaFx
open Go Go.RowKit
/-- L' is picked out of L. -/
inductive Pm : List Ch → List Ch → Prop
  | nil (L : List Ch) : Pm L []
  | cons {L L1 L' : List Ch} {A : Ch} (D : Del L A L1) (h : Pm L1 L') : Pm L (A :: L')
theorem HL.pm {L L' : List Ch} (h : Pm L L') : ∀ {w : World} {S : Nat → Prop}, HL L w S → HL L' w S := by
  induction h with
  | nil L => exact fun _ => trivial
  | cons D h ih =>
    intro w S hl
    obtain ⟨S1, S2, h1, h2, h3, h4, h5⟩ := HL.del D hl
    exact ⟨S1, S2, h1, h2, h3, h4, ih h5⟩
theorem Holds.pm {W0 w : World} {L L' : List Ch} (H : Holds W0 L w) (h : Pm L L') : Holds W0 L' w := ⟨H.old, HL.pm h H.hl⟩
theorem HL.unapp : ∀ {L1 L2 : List Ch} {w : World} {S : Nat → Prop}, HL (L1 ++ L2) w S → ∃ S1 S2 : Nat → Prop, (∀ k, S1 k → S k) ∧ (∀ k, S2 k → S k) ∧ (∀ k, S1 k → ¬ S2 k) ∧ HL L1 w S1 ∧ HL L2 w S2
  | [], L2, w, S, h => ⟨fun _ => False, S, fun _ hk => hk.elim, fun _ hk => hk, fun _ hk => hk.elim, trivial, h⟩
  | A :: L1, L2, w, S, ⟨S1, S2, h1, h2, h3, h4, h5⟩ => by
    obtain ⟨T1, T2, g1, g2, g3, g4, g5⟩ := HL.unapp h5
    exact ⟨fun k => S1 k ∨ T1 k, T2, fun k hk => hk.elim (h1 k) (fun h => h2 k (g1 k h)), fun k hk => h2 k (g2 k hk), fun k hk hk2 => hk.elim (fun h => h3 k h (g2 k hk2)) (fun h => g3 k h hk2), ⟨S1, T1, fun k hk => .inl hk, fun k hk => .inr hk, fun k hk hk2 => h3 k hk (g1 k hk2), h4, g4⟩, g5⟩
/-- The inner rows. -/
def zips {α : Type} (f : Fk α) (e : TypeId) : List Value → List (List α) → List Ch
  | v :: vs, xs :: xss => Row f e v xs :: zips f e vs xss
  | _, _ => []
theorem zips_app {α : Type} (f : Fk α) (e : TypeId) : ∀ (vs vs' : List Value) (xss xss' : List (List α)), vs.length = xss.length → zips f e (vs ++ vs') (xss ++ xss') = zips f e vs xss ++ zips f e vs' xss'
  | [], _, [], _, _ => rfl
  | [], _, _ :: _, _, h => by simp at h
  | _ :: _, _, [], _, h => by simp at h
  | v :: vs, vs', xs :: xss, xss', h => by
    show _ :: zips f e (vs ++ vs') (xss ++ xss') = _ :: (zips f e vs xss ++ zips f e vs' xss')
    rw [zips_app f e vs vs' xss xss' (by simpa using h)]
/-- Rows of rows: e the rows' type, e2 their elements'. -/
def RR {α : Type} (f : Fk α) (e e2 : TypeId) (v : Value) (xss : List (List α)) : Ch where
  p := fun w S => ∃ vs : List Value, vs.length = xss.length ∧ HL (Raw e 1 v xss.length vs :: zips f e2 vs xss) w S
  st := fun h ⟨vs, hl, hp⟩ => ⟨vs, hl, HL.st h hp⟩
section
variable {α : Type} {f : Fk α} {w w' W0 : World} {A : Option Addr} {xs : List α} {xss : List (List α)} {L L1 L2 L' : List Ch} {e e2 n c : Nat} {u v : Value}
theorem Holds.opened {C : Ch} {Ls : List Ch} (H : Holds W0 (C :: L) w) (h : ∀ S, C.p w S → HL Ls w S) : Holds W0 (Ls ++ L) w := by
  obtain ⟨ho, S1, S2, h1, h2, h3, h4, h5⟩ := H
  exact ⟨ho, HL.app h1 h2 h3 (h S1 h4) h5⟩
theorem Holds.closed {C : Ch} {Ls : List Ch} (H : Holds W0 (Ls ++ L) w) (h : ∀ S, HL Ls w S → C.p w S) : Holds W0 (C :: L) w := by
  obtain ⟨ho, hl⟩ := H
  obtain ⟨S1, S2, h1, h2, h3, h4, h5⟩ := HL.unapp hl
  exact ⟨ho, S1, S2, h1, h2, h3, h S1 h4, h5⟩
/-- A row of rows, opened. -/
theorem Holds.rrOpen (H : Holds W0 (RR f e e2 v xss :: L) w) : ∃ vs : List Value, vs.length = xss.length ∧ Holds W0 ((Raw e 1 v xss.length vs :: zips f e2 vs xss) ++ L) w := by
  obtain ⟨ho, S1, S2, h1, h2, h3, ⟨vs, hv, h4⟩, h5⟩ := H
  exact ⟨vs, hv, ho, HL.app h1 h2 h3 h4 h5⟩
theorem Holds.rrClose {vs : List Value} (hv : vs.length = xss.length) (H : Holds W0 ((Raw e 1 v xss.length vs :: zips f e2 vs xss) ++ L) w) : Holds W0 (RR f e e2 v xss :: L) w := H.closed fun S h => ⟨vs, hv, h⟩
theorem Holds.rrNil (H : Holds W0 L w) (f : Fk α) (e e2 : Nat) : Holds W0 (RR f e e2 (.slice none 0 0) [] :: L) w := Holds.rrClose (vs := []) rfl (H.nilrow e 1)
theorem zips_rd {w : World} (f : Fk α) (e : TypeId) : ∀ (vs : List Value) (xss : List (List α)) (S : Nat → Prop), vs.length = xss.length → HL (zips f e vs xss) w S → ∀ (j : Nat) (xs : List α), xss[j]? = some xs → ∃ (A : Option Addr) (c : Nat), vs[j]? = some (Value.slice A xs.length c) ∧ xs.length ≤ c ∧ xs.length ≤ maxLen ∧ Rd f.kn w A xs
  | [], [], _, _, _, j, xs, hx => by simp at hx
  | [], _ :: _, _, h, _, _, _, _ => by simp at h
  | _ :: _, [], _, h, _, _, _, _ => by simp at h
  | v :: vs, ys :: xss, S, h, hl, j, xs, hx => by
    obtain ⟨S1, S2, _, _, _, h4, h5⟩ := hl
    cases j with
    | zero =>
      simp only [List.getElem?_cons_zero, Option.some.injEq] at hx
      subst hx
      obtain ⟨A, c, rfl, hn, hA, hc⟩ := own_slice h4.2
      exact ⟨A, c, rfl, hn, own_max h4.2, (rd_of_own h4.2).2.2⟩
    | succ j => exact zips_rd f e vs xss S2 (by simpa using h) h5 j xs (by simpa using hx)
/-- As it is read. -/
theorem Holds.rr (H : Holds W0 L w) (U : Upd L (RR f e e2 v xss) (RR f e e2 v xss) L) : ∃ A c, v = .slice A xss.length c ∧ xss.length ≤ c ∧ xss.length ≤ maxLen ∧ (∀ xs ∈ xss, xs.length ≤ maxLen) ∧ Rd f.kn.sl w A xss := by
  obtain ⟨S, hS, vs, hv, S1, S2, h1, h2, h3, h4, h5⟩ := H.get U
  obtain ⟨A, c, rfl, hn, hA, hc⟩ := own_slice h4.2
  have hz := zips_rd f e2 vs xss S2 hv h5
  refine ⟨A, c, rfl, hn, own_max h4.2, fun xs hx => ?_, hA, fun j xs hx => ?_⟩
  · obtain ⟨j, hj, rfl⟩ := List.mem_iff_getElem.1 hx
    obtain ⟨_, _, _, _, h, _⟩ := hz j _ (List.getElem?_eq_getElem hj)
    exact h
  · obtain ⟨B, c', h6, h7, _, h8⟩ := hz j xs hx
    refine ⟨_, ⟨B, c', rfl, h7, h8⟩, fun i u hu => ?_⟩
    cases i with
    | zero =>
      simp only [List.getElem?_cons_zero, Option.some.injEq] at hu
      subst hu
      have := hc j _ h6
      show w.cell? ((adr A).add (j * 1 + 0)) = _
      rwa [Nat.mul_one, Nat.add_zero]
    | succ i => simp at hu
end
section
variable {α : Type} {f : Fk α} {P : Program} {n : Nat} {Q : Post} {l : Fr} {w W0 : World} {L L1 L2 : List Ch} {ops : Array Oper} {rest : List Oper} {d : Nat} {x sx : Operand} {ty t e e2 : TypeId} {pos : String} {af : Array Edge} {v u : Value} {xs : List α} {xss : List (List α)}
/-- append(rows, row). -/
theorem wl_appRR {z : Value} {bytes b : Nat} (H : Holds W0 L w) (D1 : Del L (Row f e2 u xs) L1) (D2 : Del L1 (RR f e e2 v xss) L2) (hcell : w.cell? ⟨b, 0, none⟩ = some u) (hn : Nat.ble (d + 1) n = true)
    (ht : P.underlying t = some (.slice e)) (hi : (P.info? e).map (fun i => (i.zero, i.size, i.bytes)) = some (some z, 1, bytes)) (hz : z.cells.size = 1)
    (hs : ev l sx = some v) (hx : ev l x = some (.slice (some ⟨b, 0, none⟩) 1 1)) (hb : (xss.length + 1) * bytes ≤ 140737488355328) (hb0 : 0 < bytes)
    (h : ∀ A c w', Holds W0 (RR f e e2 (.slice A (xss ++ [xs]).length c) (xss ++ [xs]) :: L2) w' → w.heap.size ≤ w'.heap.size → wl P n ops rest Q ((d, .slice A (xss ++ [xs]).length c) :: l) w') : wl P n ops (⟨some d, .call { callee := .builtin .append, args := #[sx, x], argTypes := #[t, t] }, ty, pos, af, none⟩ :: rest) Q l w := by
  have H1 : Holds W0 (RR f e e2 v xss :: Row f e2 u xs :: L2) w := (H.turn D1).turn (.there _ D2)
  obtain ⟨vs, hv, H2⟩ := H1.rrOpen
  have hu1 : u.oneCell' = true := by
    obtain ⟨_, _, ho⟩ := H1.get (A := Row f e2 u xs) (.there _ (.here _ _ _))
    obtain ⟨A, c, rfl, _⟩ := own_slice ho.2
    rfl
  refine wl_append (L' := fun v' => (Raw e 1 v' (xss.length + 1) (vs ++ [u]) :: zips f e2 vs xss) ++ Row f e2 u xs :: L2) (cs := vs) (news := [u]) H2 (fun v' => .here _ _ _) hn ht hi hz (by omega) hs hx (fun _ => rfl) rfl (fun j u' hu => ?_) (fun u' hu => by rw [List.mem_singleton.1 hu]; exact hu1) hb hb0 (fun v' w' H' hsz => ?_)
  · cases j with
    | zero =>
      simp only [List.getElem?_cons_zero, Option.some.injEq] at hu
      subst hu
      exact hcell
    | succ j => simp at hu
  · have h3 : Holds W0 (RR f e e2 v' (xss ++ [xs]) :: L2) w' := by
      refine Holds.rrClose (vs := vs ++ [u]) (by simp [hv]) ?_
      rw [zips_app f e2 vs [u] xss [xs] hv, show (xss ++ [xs]).length = xss.length + 1 by simp]
      have : (Raw e 1 v' (xss.length + 1) (vs ++ [u]) :: (zips f e2 vs xss ++ zips f e2 [u] [xs])) ++ L2 = (Raw e 1 v' (xss.length + 1) (vs ++ [u]) :: zips f e2 vs xss) ++ Row f e2 u xs :: L2 := by
        simp [zips]
      rw [this]
      exact H'
    obtain ⟨A, c, rfl, _⟩ := h3.rr (.here _ _ _)
    exact h A c w' h3 hsz
end
end Go.Proofs.YtkpehkadammppaaFx

/-! A region that draws its order: first what yields the same wherever S holds, then the rest in the text's order. -/
namespace Go.Proofs.YtkpehkadammppaaFx
open Go Go.RowKit
section
variable {P : Program} {ops : Array Oper} {Q : Exit → Act → World → Prop} {S : World → Prop} {m m2 : Nat}
def allB (ops : Array Oper) (m j : Nat) : Bool := (List.range m).all fun i => match ops[j]? with
  | some o => o.after.any fun e => Region.binds .any e && e.on == i
  | none => false
/-- Whatever order comes, S holds behind each operation that does not wait for all the heads. -/
def wpK (P : Program) (ops : Array Oper) (Q : Exit → Act → World → Prop) (S : World → Prop) (m : Nat) : Nat → Array Bool → Act → World → Prop
  | 0, listed, a, w => Region.ready .any ops listed = [] ∧ Q .normal a w
  | g + 1, listed, a, w => (Region.ready .any ops listed = [] → Q .normal a w) ∧
    ∀ i ∈ Region.ready .any ops listed, wpOp P ops Q i (fun a' w' => (allB ops m i = true ∨ S w') ∧ wpK P ops Q S m g (listed.setIfInBounds i true) a' w') a w
theorem wpK_any : ∀ (g : Nat) (listed : Array Bool) (a : Act) (w : World), wpK P ops Q S m g listed a w → wpAny P .any ops Q g listed a w
  | 0, _, _, _, h => h
  | g + 1, _, _, _, h => ⟨h.1, fun i hi => wpOp_mono (fun a' w' h' => wpK_any g _ a' w' h'.2) (h.2 i hi)⟩
theorem wpK_first {i : Nat} {oi : Oper} {v : Value} (him : i < m) (hi : ops[i]? = some oi) (hsel : ∀ (j : Nat) (o : Oper) cs b, ops[j]? = some o → o.op ≠ .select cs b) (hQ : ∀ c a w, Q (.panic c) (a.put oi.dst v) w → Q (.panic c) a w) (hS0 : allB ops m i = true ∨ True) :
    ∀ (g : Nat) (listed : Array Bool) (a : Act) (w : World), (∀ j oj, ops[j]? = some oj → j ≠ i → listed.getD j true = false → (∀ e ∈ oj.after, Region.binds .any e = true → e.on ≠ i) → oi.apart ops oj = true) →
      i ∈ Region.ready .any ops listed → YieldsIf P ops S oi v a → S w → wpK P ops Q S m g (listed.setIfInBounds i true) (a.put oi.dst v) w → wpK P ops Q S m (g + 1) listed a w := by
  intro g
  induction g with
  | zero =>
    intro listed a w _ hr hy hS H
    refine ⟨fun h => (by rw [h] at hr; cases hr), fun j hj => ?_⟩
    rcases Nat.decEq j i with hji | hji
    · have := ready_mono hj hji
      rw [H.1] at this
      cases this
    · subst hji
      exact hy.wpOp hi hS ⟨.inr hS, H⟩
  | succ g ih =>
    intro listed a w hfree hr hy hS H
    refine ⟨fun h => (by rw [h] at hr; cases hr), fun j hj => ?_⟩
    rcases Nat.decEq j i with hji | hji
    · obtain ⟨hjun, oj, hoj, hall⟩ := mem_ready.1 hj
      have hnot : ∀ e ∈ oj.after, Region.binds .any e = true → e.on ≠ i := fun e he hb heq => by
        have h1 := hall e he hb
        have h0 := (mem_ready.1 hr).1
        rw [heq] at h1
        rcases Nat.lt_or_ge i listed.size with h' | h'
        · simp [h'] at h0 h1; rw [h0] at h1; cases h1
        · simp [Array.getElem?_eq_none h'] at h1
      have hna : ¬ allB ops m j = true := fun hb => by
        unfold allB at hb
        have := List.all_eq_true.1 hb i (List.mem_range.2 him)
        rw [hoj] at this
        obtain ⟨e, he, hbe⟩ := Array.any_eq_true'.1 this
        rw [Bool.and_eq_true] at hbe
        exact hnot e he hbe.1 (by simpa using hbe.2)
      have h2 := wpOp_putIf hoj (hfree j oj hoj hji hjun hnot) (fun cs b => hsel i oi cs b hi) (fun cs b => hsel j oj cs b hoj) hQ hy (H.2 j (ready_mono hj hji))
      refine wpOp_mono (fun a' w' h3 => ?_) h2
      have hS' : S w' := h3.2.1.resolve_left hna
      refine ⟨.inr hS', ih _ a' w' (fun k ok hk hki hun hno => hfree k ok hk hki ?_ hno) (ready_mono hr (Ne.symm hji)) h3.1 hS' ?_⟩
      · rcases Nat.decEq j k with hjk | hjk
        · rw [getD_set_ne true hjk] at hun; exact hun
        · subst hjk; exact hjun
      · rw [Array.setIfInBounds_comm _ _ hji]
        exact h3.2.2
    · subst hji
      exact hy.wpOp hi hS ⟨.inr hS, H⟩
/-- May the region be walked so: heads before m, from m2 on all wait for all the heads. -/
def heldFrom (ops : Array Oper) (m m2 : Nat) : Nat → Nat → Array Bool → Bool
  | 0, _, listed => (Region.ready .any ops listed).isEmpty
  | g + 1, k, listed => (if Nat.blt k m then (Region.ready .any ops listed).contains k && Region.free .any ops listed k else (Region.ready .any ops listed == [k]) && (Nat.blt k m2 || allB ops m k)) && heldFrom ops m m2 g (k + 1) (listed.setIfInBounds k true)
def heldB (ops : Array Oper) (m m2 : Nat) : Bool := Region.noSelect ops && heldFrom ops m m2 ops.size 0 (Array.replicate ops.size false)
/-- The walk. -/
def wpH (P : Program) (ops : Array Oper) (Q : Exit → Act → World → Prop) (S : World → Prop) (m m2 : Nat) : Nat → List Oper → Act → World → Prop
  | _, [], a, w => Q .normal a w
  | k, o :: rest, a, w => if Nat.blt k m = true then S w ∧ (∃ v, YieldsIf P ops S o v a ∧ wpH P ops Q S m m2 (k + 1) rest (a.put o.dst v) w)
    else if Region.wanted o (yielded ops a.tmps) then o.wp P a w (fun a' w' => (Nat.blt k m2 = true → S w') ∧ wpH P ops Q S m m2 (k + 1) rest a' w') Q ∨ (o.asks P a w ∧ LetsOut Q)
      else (Nat.blt k m2 = true → S w) ∧ wpH P ops Q S m m2 (k + 1) rest (a.put o.dst undef) w
theorem wpK_of (hs : Region.noSelect ops = true) (hQ : ∀ c a w, Q (.panic c) a w → False) : ∀ (l : List Oper) (k : Nat) (listed : Array Bool) (a : Act) (w : World), (∀ j, l[j]? = ops[k + j]?) →
    heldFrom ops m m2 l.length k listed = true → wpH P ops Q S m m2 k l a w → wpK P ops Q S m l.length listed a w
  | [], _, _, _, _, _, hB, h => ⟨by simpa [heldFrom] using hB, h⟩
  | o :: l, k, listed, a, w, hl, hB, h => by
    have h0 : ops[k]? = some o := by simpa using (hl 0).symm
    have hl' : ∀ j, l[j]? = ops[k + 1 + j]? := fun j => by have := hl (j + 1); simpa [Nat.add_assoc, Nat.add_comm 1 j] using this
    simp only [List.length_cons, heldFrom, Bool.and_eq_true] at hB
    obtain ⟨hB1, hB2⟩ := hB
    unfold wpH at h
    by_cases hk : Nat.blt k m = true
    · rw [if_pos hk] at h hB1
      obtain ⟨hS, v, hy, hK⟩ := h
      rw [Bool.and_eq_true] at hB1
      exact wpK_first (by simpa using hk) h0 (Region.noSelect_spec hs) (fun c a w hp => (hQ c _ w hp).elim) (.inr trivial) l.length listed a w (Region.free_spec h0 hB1.2) (by simpa using hB1.1) hy hS (wpK_of hs hQ l (k + 1) _ _ w hl' hB2 hK)
    · rw [if_neg hk] at h hB1
      rw [Bool.and_eq_true] at hB1
      have hr : Region.ready .any ops listed = [k] := by simpa using hB1.1
      have hall : allB ops m k = true ∨ Nat.blt k m2 = true := by
        have := hB1.2
        rw [Bool.or_eq_true] at this
        exact this.symm
      refine ⟨fun h1 => (by rw [hr] at h1; cases h1), fun j hj => ?_⟩
      rw [hr, List.mem_singleton] at hj
      subst hj
      unfold wpOp
      simp only [h0]
      by_cases hw : Region.wanted o (yielded ops a.tmps) = true
      · rw [if_pos hw] at h ⊢
        exact h.imp (Oper.wp_mono fun a' w' hh => ⟨hall.imp id (fun h2 => hh.1 h2), wpK_of hs hQ l (j + 1) _ _ w' hl' hB2 hh.2⟩) id
      · rw [if_neg hw] at h ⊢
        exact ⟨hall.imp id (fun h2 => h.1 h2), wpK_of hs hQ l (j + 1) _ _ w hl' hB2 h.2⟩
end
section
variable {P : Program} {n : Nat} {Q : Post} {l : Fr} {w : World} {ops : Array Oper} {rest : List Oper} {o : Oper} {S : World → Prop} {m m2 k d : Nat} {v : Value}
/-- The heads. -/
def wh (P : Program) (n : Nat) (ops : Array Oper) (S : World → Prop) (Q : Post) (m m2 k : Nat) (rest : List Oper) (l : Fr) (w : World) : Prop := ∀ a, Ag n l a → wpH P ops (up n Q) S m m2 k rest a w
theorem wc_held {id : Nat} {ol : List Oper} (m m2 : Nat) (S : World → Prop) (hm : P.follows .mixedOrders = true) (hB : heldB ol.toArray m m2 = true) (hQ : ∀ c l w, Q (.panic c) l w → False) (h : wh P n ol.toArray S Q m m2 0 ol l w.drew) : wc P n (.region id ol.toArray true) Q l w := fun a ha => by
  simp only [heldB, Bool.and_eq_true] at hB
  refine wp_region_any hm (wpK_any _ _ _ _ (wpK_of (S := S) (m := m) (m2 := m2) hB.1 (fun c a w ⟨l, _, hq⟩ => hQ c l w hq) ol.toArray.toList 0 _ a _ (by simp) (by simpa using hB.2) ?_))
  simpa using h a ha
theorem tn {K : Fr → World → Prop} (h : K l w) : thenQ K Q .normal l w := h
theorem wh_nil (h : Q .normal l w) : wh P n ops S Q m m2 k [] l w := fun a ha => ⟨l, ha, h⟩
theorem wh_v (hk : Nat.blt k m = true) (hS : S w) (hd : o.dst = some d) (hg : o.guard = none) (hn : Nat.ble (d + 1) n = true) (hv : ∀ W, S W → Vs P n l o W v) (h : wh P n ops S Q m m2 (k + 1) rest ((d, v) :: l) w) : wh P n ops S Q m m2 k (o :: rest) l w := fun a ha => by
  unfold wpH
  rw [if_pos hk]
  refine ⟨hS, v, .inl ⟨by simp [Region.wanted, hg], fun W hW => hv W hW a ha⟩, ?_⟩
  rw [hd]
  exact h _ (ha.put hn v)
theorem wp_swapQ {a : Act} {w : World} {K : Act → World → Prop} {Q1 Q2 : Exit → Act → World → Prop} (hp : ∀ c a w, Q1 (.panic c) a w → Q2 (.panic c) a w) (ho : LetsOut Q1 → LetsOut Q2) (h : o.wp P a w K Q1) : o.wp P a w K Q2 := by
  unfold Oper.wp at *
  generalize (execOp a.eval o).run P w = r at *
  cases r with
  | ok nx w' =>
    cases nx <;> simp only [Oper.upon] at h ⊢ <;>
      first
        | exact h
        | exact Calls.mono h (fun e w'' he => by cases e <;> first | exact he | exact hp _ _ _ he | exact ho he)
        | exact Rows.mono h (fun _ _ he => he)
  | halt x w' => cases x <;> simp only [Oper.upon] at h ⊢ <;> first | exact h | exact hp _ _ _ h
theorem wh_t (hk : Nat.blt k m = false) (h : wl P n ops [o] (thenQ (fun l' w' => (Nat.blt k m2 = true → S w') ∧ wh P n ops S Q m m2 (k + 1) rest l' w') Q) l w) : wh P n ops S Q m m2 k (o :: rest) l w := fun a ha => by
  have h1 := h a ha
  unfold wpH
  rw [if_neg (by rw [hk]; simp)]
  unfold wpList at h1
  by_cases hw : Region.wanted o (yielded ops a.tmps) = true
  · rw [if_pos hw] at h1 ⊢
    have hlo : LetsOut (up n (thenQ (fun l' w' => (Nat.blt k m2 = true → S w') ∧ wh P n ops S Q m m2 (k + 1) rest l' w') Q)) → LetsOut (up n Q) := fun ⟨a, w, hh⟩ => ⟨a, w, hh⟩
    refine h1.imp (fun h => ?_) (fun h => ⟨h.1, hlo h.2⟩)
    refine wp_swapQ (fun c a w hp => hp) hlo (Oper.wp_mono (fun a' w' hh => ?_) h)
    obtain ⟨l', hl, hS, hr⟩ := hh
    exact ⟨hS, hr a' hl⟩
  · rw [if_neg hw] at h1 ⊢
    obtain ⟨l', hl, hS, hr⟩ := h1
    exact ⟨hS, hr _ hl⟩
theorem oldN {cs cs' : List Value} {w : World} {b off k : Nat} (h : ∀ j v, cs[j]? = some v → w.cell? ⟨b, j, none⟩ = some v) (hcut : (cs.drop off).take k = cs') : ∀ j v, cs'[j]? = some v → w.cell? ((⟨b, off, none⟩ : Addr).add j) = some v := fun j v hv => by
  rw [Addr.add_lit]
  exact h _ v (cut_eq hcut j v hv)
theorem v_fn {fn : Fn} {d : Nat} {ty : TypeId} {pos : String} {af : Array Edge} {fs cs : List Operand} {vf vc : List Value} (hf : evs l fs = some vf) (hc : evs l cs = some vc) : Vs P n l ⟨some d, .makeFunc fn fs.toArray cs.toArray, ty, pos, af, none⟩ w (.func fn vf.toArray vc.toArray) :=
  v_func (fun a ha => by rw [List.map_toArray, ha.evals hf]) (fun a ha => by rw [List.map_toArray, ha.evals hc])
end
end Go.Proofs.YtkpehkadammppaaFx

/-! Trees that are read: a struct whose last field are its kids. -/
namespace Go.Proofs.YtkpehkadammppaaFx
open Go Go.RowKit
inductive Tr (α : Type) where
  | mk (x : α) (kids : List (Tr α))
def Tr.x {α : Type} : Tr α → α
  | .mk x _ => x
def Tr.kids {α : Type} : Tr α → List (Tr α)
  | .mk _ k => k
mutual
def Tr.K {α : Type} (f : Fk α) (w : World) : Tr α → List Value → Prop
  | .mk x kids, cs => ∃ A c, cs = f.enc x ++ [.slice A kids.length c] ∧ kids.length ≤ c ∧ (0 < kids.length → A = some (adr A)) ∧ Tr.Ks f w kids (adr A) 0
def Tr.Ks {α : Type} (f : Fk α) (w : World) : List (Tr α) → Addr → Nat → Prop
  | [], _, _ => True
  | t :: r, p, j => (∃ cs, Tr.K f w t cs ∧ ∀ i u, cs[i]? = some u → w.cell? (p.add (j * (f.sz + 1) + i)) = some u) ∧ Tr.Ks f w r p (j + 1)
end
theorem Tr.ind {α : Type} {p : Tr α → Prop} (h : ∀ x kids, (∀ t ∈ kids, p t) → p (.mk x kids)) : ∀ t, p t
  | .mk x kids => h x kids fun t _ => Tr.ind h t
section
variable {α : Type} {f : Fk α} {w w' : World}
mutual
theorem Tr.K.st (hb : Below w.heap.size w w') : ∀ (t : Tr α) (cs : List Value), Tr.K f w t cs → Tr.K f w' t cs
  | .mk x kids, cs, h => by
    unfold Tr.K at h ⊢
    obtain ⟨A, c, h1, h2, h3, h4⟩ := h
    exact ⟨A, c, h1, h2, h3, Tr.Ks.st hb kids (adr A) 0 h4⟩
theorem Tr.Ks.st (hb : Below w.heap.size w w') : ∀ (ts : List (Tr α)) (p : Addr) (j : Nat), Tr.Ks f w ts p j → Tr.Ks f w' ts p j
  | [], _, _, _ => by unfold Tr.Ks; trivial
  | t :: r, p, j, h => by
    unfold Tr.Ks at h ⊢
    obtain ⟨⟨cs, h1, h2⟩, h3⟩ := h
    exact ⟨⟨cs, Tr.K.st hb t cs h1, fun i u hu => cell_below hb (h2 i u hu)⟩, Tr.Ks.st hb r p (j + 1) h3⟩
end
theorem Tr.K.form {t : Tr α} {cs : List Value} (h : Tr.K f w t cs) : ∃ A c, cs = f.enc t.x ++ [.slice A t.kids.length c] ∧ t.kids.length ≤ c ∧ (0 < t.kids.length → A = some (adr A)) ∧ Tr.Ks f w t.kids (adr A) 0 := by
  cases t with
  | mk x kids => unfold Tr.K at h; exact h
def kTr (f : Fk α) : Kn (Tr α) where
  sz := f.sz + 1
  K := fun w t cs => Tr.K f w t cs
  len := fun h => by
    obtain ⟨A, c, rfl, _⟩ := h.form
    rw [List.length_append, f.len]
    rfl
  one := fun h u hu => by
    obtain ⟨A, c, rfl, _⟩ := h.form
    rcases List.mem_append.1 hu with h1 | h1
    · exact f.one _ u h1
    · rw [List.mem_singleton.1 h1]; rfl
  st := fun hb h => Tr.K.st hb _ _ h
theorem Tr.Ks.el : ∀ (ts : List (Tr α)) (p : Addr) (j0 : Nat), Tr.Ks f w ts p j0 → ∀ j t, ts[j]? = some t → ∃ cs, Tr.K f w t cs ∧ ∀ i u, cs[i]? = some u → w.cell? (p.add ((j0 + j) * (f.sz + 1) + i)) = some u
  | [], _, _, _, j, t, h => by simp at h
  | t :: r, p, j0, h, j, t', ht => by
    unfold Tr.Ks at h
    obtain ⟨h1, h2⟩ := h
    cases j with
    | zero =>
      simp only [List.getElem?_cons_zero, Option.some.injEq] at ht
      subst ht
      exact h1
    | succ j =>
      obtain ⟨cs, h3, h4⟩ := Tr.Ks.el r p (j0 + 1) h2 j t' (by simpa using ht)
      exact ⟨cs, h3, fun i u hu => by rw [show j0 + (j + 1) = j0 + 1 + j by omega]; exact h4 i u hu⟩
theorem Tr.Ks.of : ∀ (ts : List (Tr α)) (p : Addr) (j0 : Nat), (∀ j t, ts[j]? = some t → ∃ cs, Tr.K f w t cs ∧ ∀ i u, cs[i]? = some u → w.cell? (p.add ((j0 + j) * (f.sz + 1) + i)) = some u) → Tr.Ks f w ts p j0
  | [], _, _, _ => by unfold Tr.Ks; trivial
  | t :: r, p, j0, h => by
    unfold Tr.Ks
    exact ⟨h 0 t rfl, Tr.Ks.of r p (j0 + 1) fun j t' ht => by
      obtain ⟨cs, h1, h2⟩ := h (j + 1) t' (by simpa using ht)
      exact ⟨cs, h1, fun i u hu => by rw [show j0 + 1 + j = j0 + (j + 1) by omega]; exact h2 i u hu⟩⟩
/-- A tree's cells, its kids a slice that is read. -/
theorem Tr.K.open {t : Tr α} {cs : List Value} (h : Tr.K f w t cs) : ∃ A c, cs = f.enc t.x ++ [.slice A t.kids.length c] ∧ t.kids.length ≤ c ∧ Rd (kTr f) w A t.kids := by
  obtain ⟨A, c, h1, h2, h3, h4⟩ := h.form
  refine ⟨A, c, h1, h2, h3, fun j t' ht => ?_⟩
  obtain ⟨cs', h5, h6⟩ := Tr.Ks.el _ _ _ h4 j t' ht
  exact ⟨cs', h5, fun i u hu => by have := h6 i u hu; rwa [Nat.zero_add] at this⟩
theorem Tr.K.mk {x : α} {kids : List (Tr α)} {A : Option Addr} {c : Nat} (h : kids.length ≤ c) (hr : Rd (kTr f) w A kids) : Tr.K f w (.mk x kids) (f.enc x ++ [.slice A kids.length c]) := by
  unfold Tr.K
  refine ⟨A, c, rfl, h, hr.ad, Tr.Ks.of _ _ _ fun j t ht => ?_⟩
  obtain ⟨cs, h1, h2⟩ := hr.el j t ht
  exact ⟨cs, h1, fun i u hu => by rw [Nat.zero_add]; exact h2 i u hu⟩
/-- One of a row of trees. -/
theorem Rd.atTr {A : Option Addr} {ts : List (Tr α)} (h : Rd (kTr f) w A ts) (z : Tr α) {i : Nat} (hi : i < ts.length) : ∃ B c, (∀ k u, (f.enc (ts.getD i z).x ++ [.slice B (ts.getD i z).kids.length c])[k]? = some u → w.cell? (((adr A).add ((i : Int).toNat * (f.sz + 1))).add k) = some u) ∧ (ts.getD i z).kids.length ≤ c ∧ Rd (kTr f) w B (ts.getD i z).kids := by
  obtain ⟨cs, hK, hc⟩ := h.get z (i := (i : Int)) (by omega) (by omega)
  rw [Int.toNat_natCast] at hK hc ⊢
  obtain ⟨B, c, rfl, h2, h3⟩ := Tr.K.open hK
  exact ⟨B, c, hc, h2, h3⟩
end
mutual
/-- So many nodes. -/
def Tr.cnt {α : Type} : Tr α → Nat
  | .mk _ kids => 1 + Tr.cnts kids
def Tr.cnts {α : Type} : List (Tr α) → Nat
  | [] => 0
  | t :: r => t.cnt + Tr.cnts r
end
theorem Tr.cnt_eq {α : Type} (t : Tr α) : t.cnt = 1 + Tr.cnts t.kids := by cases t; rfl
theorem Tr.cnts_succ {α : Type} (z : Tr α) : ∀ (ts : List (Tr α)) (i : Nat), i < ts.length → Tr.cnts (ts.take (i + 1)) = Tr.cnts (ts.take i) + (ts.getD i z).cnt
  | [], i, h => by simp at h
  | t :: r, 0, _ => by simp [Tr.cnts]
  | t :: r, i + 1, h => by
    have := Tr.cnts_succ z r i (by simpa using h)
    rw [List.take_succ_cons, List.take_succ_cons, Tr.cnts, Tr.cnts, this, List.getD_cons_succ]
    omega
theorem Tr.cnts_take {α : Type} : ∀ (ts : List (Tr α)) (i : Nat), Tr.cnts (ts.take i) ≤ Tr.cnts ts
  | [], i => by simp [Tr.cnts]
  | t :: r, 0 => by simp [Tr.cnts]
  | t :: r, i + 1 => by
    have := Tr.cnts_take r i
    rw [List.take_succ_cons, Tr.cnts, Tr.cnts]
    omega
theorem Tr.cnts_len {α : Type} : ∀ (ts : List (Tr α)), ts.length ≤ Tr.cnts ts
  | [] => Nat.le_refl _
  | t :: r => by
    have h1 := Tr.cnts_len r
    have h2 := Tr.cnt_eq t
    rw [Tr.cnts, List.length_cons]
    omega
end Go.Proofs.YtkpehkadammppaaFx

/-! Grammars as plain data. -/
namespace Go.Proofs.YtkpehkadammppaaFx
open Go Go.RowKit
/-- A text's byte. -/
def byt (s : ByteArray) (i : Nat) : Int := ((s.data.getD i 0).toNat : Int)
theorem byt_u8 (s : ByteArray) (i : Nat) : 0 ≤ byt s i ∧ byt s i < 256 := ⟨Int.natCast_nonneg _, by
  have := (s.data.getD i 0).toNat_lt
  unfold byt
  omega⟩
theorem byt_at {s : ByteArray} {i : Nat} (h : i < s.size) : ((s[i].toNat : Nat) : Int) = byt s i := by
  unfold byt
  have h' : i < s.data.size := h
  rw [Array.getD_eq_getD_getElem?, Array.getElem?_eq_getElem h']
  rfl
section
variable {P : Program} {n : Nat} {l : Fr} {w : World} {d : Nat} {x y : Operand} {ty t : TypeId} {pos : String} {af : Array Edge}
theorem v_idxs {s : ByteArray} {i : Nat} {k : IntKind} (ht : P.underlying t = some .string) (hx : ev l x = some (.string s)) (hy : ev l y = some (.int k (i : Int))) (h1 : i < s.size) :
    Vs P n l ⟨some d, .index t x y, ty, pos, af, none⟩ w (.int .u8 (byt s i)) := by
  have h := v_indexs (P := P) (n := n) (w := w) (ty := ty) (pos := pos) (af := af) (dst := some d) (gd := none) ht hx hy (by omega) (by rw [Int.toNat_natCast]; exact h1)
  simp only [Int.toNat_natCast] at h
  rw [byt_at h1] at h
  exact h
theorem ba_size0 (s : ByteArray) : s = ⟨#[]⟩ ↔ s.size = 0 := ⟨fun h => by rw [h]; rfl, fun h => by
  cases s with
  | mk d =>
    have h' : d.size = 0 := h
    rw [Array.eq_empty_of_size_eq_zero h']⟩
variable {t2 : TypeId}
theorem v_eql0 {s : ByteArray} (hx : ev l x = some (.string s)) (hy : ev l y = some (.string ⟨#[]⟩)) : Vs P n l ⟨some d, .binOp .eql t x y t2, ty, pos, af, none⟩ w (.bool (decide (s.size = 0))) := by
  have h := v_eqls (P := P) (n := n) (w := w) (ty := ty) (t := t) (t2 := t2) (pos := pos) (af := af) (dst := some d) (gd := none) hx hy
  rwa [show decide (s = ⟨#[]⟩) = decide (s.size = 0) from decide_eq_decide.2 (ba_size0 s)] at h
theorem v_neq0 {s : ByteArray} (hx : ev l x = some (.string s)) (hy : ev l y = some (.string ⟨#[]⟩)) : Vs P n l ⟨some d, .binOp .neq t x y t2, ty, pos, af, none⟩ w (.bool (!decide (s.size = 0))) := by
  have h := v_neqs (P := P) (n := n) (w := w) (ty := ty) (t := t) (t2 := t2) (pos := pos) (af := af) (dst := some d) (gd := none) hx hy
  rwa [show decide (s = ⟨#[]⟩) = decide (s.size = 0) from decide_eq_decide.2 (ba_size0 s)] at h
end
/-- A name's bytes. -/
def chOk (i : Nat) (c : Int) : Prop := (97 ≤ c ∧ c ≤ 122) ∨ (65 ≤ c ∧ c ≤ 90) ∨ c = 95 ∨ (0 < i ∧ 48 ≤ c ∧ c ≤ 57)
def NameOk (m : Nat) (s : ByteArray) : Prop := 1 ≤ s.size ∧ s.size ≤ m ∧ ∀ i, i < s.size → chOk i (byt s i)
/-- What an action's part says. -/
structure AcP where
  kind : Int
  at_ : Int
  name : ByteArray
def fAc : Fk AcP := ⟨3, fun a => [.int .i64 a.kind, .int .i64 a.at_, .string a.name], fun _ => rfl, fun x u hu => by
  simp only [List.mem_cons, List.not_mem_nil, or_false] at hu
  rcases hu with rfl | rfl | rfl <;> rfl⟩
abbrev Ac := Tr AcP
def ac0 : Ac := .mk ⟨0, 0, ByteArray.empty⟩ []
/-- A production. -/
structure Pr where
  left : Int
  right : List Int
  level : Int
  act : Ac
def pr0 : Pr := ⟨0, [], 0, ac0⟩
def kPr : Kn Pr where
  sz := 7
  K := fun w p cs => ∃ A c B k, cs = [.int .i64 p.left, .slice A p.right.length c, .int .i64 p.level, .int .i64 p.act.x.kind, .int .i64 p.act.x.at_, .string p.act.x.name, .slice B p.act.kids.length k] ∧ (p.right.length ≤ c ∧ p.act.kids.length ≤ k) ∧ Rd (kInt .i64) w A p.right ∧ Rd (kTr fAc) w B p.act.kids
  len := fun ⟨_, _, _, _, h, _⟩ => by rw [h]; rfl
  one := fun ⟨_, _, _, _, h, _⟩ u hu => by
    rw [h] at hu
    simp only [List.mem_cons, List.not_mem_nil, or_false] at hu
    rcases hu with rfl | rfl | rfl | rfl | rfl | rfl | rfl <;> rfl
  st := fun hb ⟨A, c, B, k, h, hl, h1, h2⟩ => ⟨A, c, B, k, h, hl, h1.below hb, h2.below hb⟩
/-- One of a row of productions. -/
theorem Rd.atPr {w : World} {A : Option Addr} {ps : List Pr} (h : Rd kPr w A ps) {i : Nat} (hi : i < ps.length) : ∃ R c B k, (∀ j u, ([.int .i64 (ps.getD i pr0).left, .slice R (ps.getD i pr0).right.length c, .int .i64 (ps.getD i pr0).level, .int .i64 (ps.getD i pr0).act.x.kind, .int .i64 (ps.getD i pr0).act.x.at_, .string (ps.getD i pr0).act.x.name, .slice B (ps.getD i pr0).act.kids.length k] : List Value)[j]? = some u → w.cell? (((adr A).add ((i : Int).toNat * 7)).add j) = some u) ∧ ((ps.getD i pr0).right.length ≤ c ∧ (ps.getD i pr0).act.kids.length ≤ k) ∧ Rd (kInt .i64) w R (ps.getD i pr0).right ∧ Rd (kTr fAc) w B (ps.getD i pr0).act.kids := by
  obtain ⟨cs, ⟨R, c, B, k, rfl, hl, h1, h2⟩, hc⟩ := h.get pr0 (i := (i : Int)) (by omega) (by omega)
  rw [Int.toNat_natCast] at hl h1 h2 hc ⊢
  exact ⟨R, c, B, k, hc, hl, h1, h2⟩
/-- A grammar. -/
structure Pl where
  kinds : List ByteArray
  precs : List Mv
  rules : List ByteArray
  prods : List Pr
  start : Int
structure PlA where
  k : Option Addr
  ck : Nat
  p : Option Addr
  cp : Nat
  r : Option Addr
  cr : Nat
  q : Option Addr
  cq : Nat
abbrev Pl.cs (g : Pl) (a : PlA) : List Value := [.slice a.k g.kinds.length a.ck, .slice a.p g.precs.length a.cp, .slice a.r g.rules.length a.cr, .slice a.q g.prods.length a.cq, .int .i64 g.start]
structure Pl.rd (g : Pl) (w : World) (a : PlA) : Prop where
  k : Rd kStr w a.k g.kinds
  p : Rd fMv.kn w a.p g.precs
  r : Rd kStr w a.r g.rules
  q : Rd kPr w a.q g.prods
theorem Pl.rd.below {g : Pl} {w w' : World} {a : PlA} (h : g.rd w a) (hb : Below w.heap.size w w') : g.rd w' a := ⟨h.k.below hb, h.p.below hb, h.r.below hb, h.q.below hb⟩
structure Pl.ok (g : Pl) : Prop where
  k : g.kinds.length ≤ 1099511627776
  ks : ∀ s ∈ g.kinds, s.size ≤ 1099511627776
  p : g.precs.length ≤ 1099511627776
  r : g.rules.length ≤ 1099511627776
  rs : ∀ s ∈ g.rules, s.size ≤ 1099511627776
  q : g.prods.length ≤ 1099511627776
  qr : ∀ p ∈ g.prods, p.right.length ≤ 1099511627776
  qa : ∀ p ∈ g.prods, p.act.cnt ≤ 1099511627776
/-! ### what may be -/
section
variable {α : Type} (p : α → Nat → Prop)
mutual
def Tr.All : Tr α → Prop
  | .mk x kids => p x kids.length ∧ Tr.Alls kids
def Tr.Alls : List (Tr α) → Prop
  | [] => True
  | t :: r => t.All ∧ Tr.Alls r
end
end
theorem Tr.All_eq {α : Type} {p : α → Nat → Prop} (t : Tr α) : t.All p ↔ p t.x t.kids.length ∧ Tr.Alls p t.kids := by
  cases t
  rw [Tr.All]
  rfl
theorem Tr.Alls_iff {α : Type} {p : α → Nat → Prop} : ∀ ts : List (Tr α), Tr.Alls p ts ↔ ∀ t ∈ ts, t.All p
  | [] => by simp [Tr.Alls]
  | t :: r => by rw [Tr.Alls, Tr.Alls_iff r]; simp
theorem Tr.Alls_succ {α : Type} {p : α → Nat → Prop} (z : Tr α) {ts : List (Tr α)} {i : Nat} (h : i < ts.length) : Tr.Alls p (ts.take (i + 1)) ↔ Tr.Alls p (ts.take i) ∧ (ts.getD i z).All p := by
  rw [Tr.Alls_iff, Tr.Alls_iff, take_succ' z h]
  simp only [List.mem_append, List.mem_singleton]
  exact ⟨fun h => ⟨fun t ht => h t (.inl ht), h _ (.inr rfl)⟩, fun h t ht => ht.elim (h.1 t) (fun e => e ▸ h.2)⟩
theorem Tr.Alls_at {α : Type} {p : α → Nat → Prop} (z : Tr α) {ts : List (Tr α)} {i : Nat} (h : i < ts.length) (ha : Tr.Alls p ts) : (ts.getD i z).All p := (Tr.Alls_iff ts).1 ha _ (getD_mem h)
/-- A part of an action, of so many symbols, with so many kids. -/
def nodeOk (syms : Int) (x : AcP) (k : Nat) : Prop := (x.kind = 0 ∧ k = 0 ∧ x.at_ = 0 ∧ x.name.size = 0) ∨ (x.kind = 1 ∧ k = 0 ∧ (0 ≤ x.at_ ∧ x.at_ < syms) ∧ x.name.size = 0) ∨ (x.kind = 3 ∧ k = 0 ∧ x.at_ = 0 ∧ x.name.size ≤ 4096) ∨ (x.kind = 2 ∧ x.at_ = 0 ∧ 1 ≤ x.name.size ∧ x.name.size ≤ 32)
/-- The parts of an action counted: so far. -/
structure PSt (syms : Int) (t : Ac) (n : Int) (i : Nat) (m : Int) (ok : Bool) : Prop where
  le : i ≤ t.kids.length
  yes : ok = true → nodeOk syms t.x t.kids.length ∧ Tr.Alls (nodeOk syms) (t.kids.take i) ∧ m = n + 1 + Tr.cnts (t.kids.take i)
  no : ok = false → ¬ (t.All (nodeOk syms) ∧ n + t.cnt ≤ 256)
  lo : n ≤ m
  hi : m ≤ n + 1 + Tr.cnts (t.kids.take i)
section
variable {syms n m : Int} {t : Ac} {i : Nat} {ok ok' : Bool}
theorem PSt.start (h : ok = dec (nodeOk syms t.x t.kids.length)) : PSt syms t n 0 (n + 1) ok where
  le := Nat.zero_le _
  yes := fun e => ⟨of_dec (h.symm.trans e), by simp [Tr.Alls], by simp [Tr.cnts]⟩
  no := fun e hh => of_ndec (h.symm.trans e) ((Tr.All_eq t).1 hh.1).1
  lo := by omega
  hi := by omega
theorem PSt.cnt (h : PSt syms t n i m ok) : Tr.cnts (t.kids.take i) ≤ Tr.cnts t.kids ∧ t.cnt = 1 + Tr.cnts t.kids := ⟨Tr.cnts_take _ _, Tr.cnt_eq t⟩
theorem PSt.skip (h : PSt syms t n i m ok) (hi : i < t.kids.length) (hok : ok = false ∨ 256 < m) (h' : ok' = false) : PSt syms t n (i + 1) m ok' := by
  have h1 := h.cnt
  have h2 := Tr.cnts_succ ac0 _ _ hi
  have h3 := h.hi
  refine ⟨hi, fun e => absurd (h'.symm.trans e) Bool.noConfusion, fun _ hh => ?_, h.lo, by omega⟩
  rcases hok with e | e
  · exact h.no e hh
  · omega
theorem PSt.call {m' : Int} (h : PSt syms t n i m ok) (hi : i < t.kids.length) (hok : ok = true) (h' : ok' = dec ((t.kids.getD i ac0).All (nodeOk syms) ∧ m + (t.kids.getD i ac0).cnt ≤ 256)) (hm : ((t.kids.getD i ac0).All (nodeOk syms) ∧ m + (t.kids.getD i ac0).cnt ≤ 256) → m' = m + (t.kids.getD i ac0).cnt) (hl : m ≤ m' ∧ m' ≤ m + (t.kids.getD i ac0).cnt) : PSt syms t n (i + 1) m' ok' := by
  have h1 := h.cnt
  have h2 := Tr.cnts_succ ac0 _ _ hi
  have h3 := h.hi
  have h4 := h.lo
  have h6 := Tr.cnts_take t.kids (i + 1)
  obtain ⟨y1, y2, y3⟩ := h.yes hok
  refine ⟨hi, fun e => ?_, fun e hh => ?_, by omega, by omega⟩
  · have h5 := of_dec (h'.symm.trans e)
    have := hm h5
    exact ⟨y1, (Tr.Alls_succ ac0 hi).2 ⟨y2, h5.1⟩, by omega⟩
  · exact of_ndec (h'.symm.trans e) ⟨Tr.Alls_at ac0 hi ((Tr.All_eq t).1 hh.1).2, by omega⟩
theorem PSt.fin (h : PSt syms t n i m ok) (hi : ¬ ((i : Int) < t.kids.length)) (h' : ok' = true ↔ ok = true ∧ m ≤ 256) : ok' = dec (t.All (nodeOk syms) ∧ n + t.cnt ≤ 256) := by
  have h1 := h.cnt
  have he : t.kids.take i = t.kids := List.take_of_length_le (by omega)
  refine dec_eq (h'.trans ⟨fun hh => ?_, fun hh => ?_⟩)
  · obtain ⟨y1, y2, y3⟩ := h.yes hh.1
    rw [he] at y2 y3
    exact ⟨(Tr.All_eq t).2 ⟨y1, y2⟩, by omega⟩
  · cases hok : ok
    · exact absurd hh (h.no hok)
    · obtain ⟨y1, y2, y3⟩ := h.yes hok
      rw [he] at y3
      exact ⟨rfl, by omega⟩
theorem PSt.out (h : PSt syms t n i m ok) (hi : ¬ ((i : Int) < t.kids.length)) : ((t.All (nodeOk syms) ∧ n + t.cnt ≤ 256) → m = n + t.cnt) ∧ n ≤ m ∧ m ≤ n + t.cnt := by
  have h1 := h.cnt
  have he : t.kids.take i = t.kids := List.take_of_length_le (by omega)
  have h3 := h.hi
  rw [he] at h3
  refine ⟨fun hh => ?_, h.lo, by omega⟩
  cases hok : ok
  · exact absurd hh (h.no hok)
  · obtain ⟨y1, y2, y3⟩ := h.yes hok
    rw [he] at y3
    omega
/-- What is left of so many parts; -1: more are needed, or some may not be. -/
noncomputable def leftA (syms left : Int) (t : Ac) : Int := if dec (t.All (nodeOk syms) ∧ (t.cnt : Int) ≤ left) then left - t.cnt else -1
theorem leftA_t {left : Int} (h : t.All (nodeOk syms) ∧ (t.cnt : Int) ≤ left) : leftA syms left t = left - t.cnt := by rw [leftA, dec_t h]; rfl
theorem leftA_f {left : Int} (h : ¬ (t.All (nodeOk syms) ∧ (t.cnt : Int) ≤ left)) : leftA syms left t = -1 := by rw [leftA, dec_f h]; rfl
theorem leftA_node {left : Int} (h : ¬ nodeOk syms t.x t.kids.length) : leftA syms left t = -1 := leftA_f fun hh => h ((Tr.All_eq t).1 hh.1).1
theorem leftA_few {left : Int} (h : left < 1) : leftA syms left t = -1 := leftA_f fun hh => by have := Tr.cnt_eq t; omega
structure PSr (syms : Int) (t : Ac) (left : Int) (i : Nat) (r : Int) : Prop where
  le : i ≤ t.kids.length
  ok : nodeOk syms t.x t.kids.length
  yes : 0 ≤ r → Tr.Alls (nodeOk syms) (t.kids.take i) ∧ r = left - 1 - Tr.cnts (t.kids.take i)
  no : r < 0 → r = -1 ∧ ¬ (t.All (nodeOk syms) ∧ (t.cnt : Int) ≤ left)
theorem PSr.start {left : Int} (h : nodeOk syms t.x t.kids.length) (h0 : 1 ≤ left) : PSr syms t left 0 (left - 1) where
  le := Nat.zero_le _
  ok := h
  yes := fun _ => ⟨by simp [Tr.Alls], by simp [Tr.cnts]⟩
  no := fun h => by omega
theorem PSr.rng {left r : Int} (h : PSr syms t left i r) : -1 ≤ r ∧ (r ≤ left ∨ r = -1) := by
  rcases Int.lt_or_le r 0 with h0 | h0
  · have := (h.no h0).1; omega
  · have := (h.yes h0).2; omega
theorem PSr.next {left r : Int} (h : PSr syms t left i r) (hi : i < t.kids.length) (h0 : 0 ≤ r) : PSr syms t left (i + 1) (leftA syms r (t.kids.getD i ac0)) := by
  have h2 := Tr.cnts_succ ac0 _ _ hi
  have h6 := Tr.cnts_take t.kids (i + 1)
  have h7 := Tr.cnt_eq t
  obtain ⟨y1, y2⟩ := h.yes h0
  rcases Classical.em ((t.kids.getD i ac0).All (nodeOk syms) ∧ ((t.kids.getD i ac0).cnt : Int) ≤ r) with hc | hc
  · rw [leftA_t hc]
    refine ⟨hi, h.ok, fun _ => ⟨(Tr.Alls_succ ac0 hi).2 ⟨y1, hc.1⟩, by omega⟩, fun h => by have := hc.2; omega⟩
  · rw [leftA_f hc]
    refine ⟨hi, h.ok, fun h => by omega, fun _ => ⟨rfl, fun hh => hc ⟨Tr.Alls_at ac0 hi ((Tr.All_eq t).1 hh.1).2, by omega⟩⟩⟩
theorem PSr.fin {left r : Int} (h : PSr syms t left i r) (hi : ¬ (i < t.kids.length) ∨ r < 0) : r = leftA syms left t := by
  have h7 := Tr.cnt_eq t
  rcases Int.lt_or_le r 0 with h0 | h0
  · obtain ⟨h1, h2⟩ := h.no h0
    rw [leftA_f h2, h1]
  · obtain ⟨y1, y2⟩ := h.yes h0
    have he : t.kids.take i = t.kids := List.take_of_length_le (by omega)
    rw [he] at y1 y2
    rw [leftA_t ⟨(Tr.All_eq t).2 ⟨h.ok, y1⟩, by omega⟩]
    omega
end
/-- An action may be, and has at most so many parts. -/
def ActOk (syms : Int) (most : Int) (t : Ac) : Prop := t.All (nodeOk syms) ∧ (t.cnt : Int) ≤ most
def PrOk (g : Pl) (p : Pr) : Prop := ((0 ≤ p.left ∧ p.left < g.rules.length) ∧ p.right.length ≤ 64 ∧ 0 ≤ p.level) ∧ (∀ j, j < p.right.length → 1 ≤ p.right.getD j 0 ∧ p.right.getD j 0 < g.kinds.length + g.rules.length) ∧ ActOk p.right.length 256 p.act
def Dist (l : List ByteArray) (i : Nat) : Prop := ∀ k, k < i → l.getD k ByteArray.empty ≠ l.getD i ByteArray.empty
def KindsOk (l : List ByteArray) : Prop := (2 ≤ l.length ∧ l.length ≤ 1024 ∧ l.getD 0 ByteArray.empty = ⟨#[101, 110, 100]⟩ ∧ l.getD 1 ByteArray.empty = ⟨#[101, 114, 114, 111, 114]⟩) ∧ ∀ i, i < l.length → NameOk 64 (l.getD i ByteArray.empty) ∧ Dist l i
def RulesOk (l : List ByteArray) : Prop := (1 ≤ l.length ∧ l.length ≤ 2048) ∧ ∀ i, i < l.length → (1 ≤ (l.getD i ByteArray.empty).size ∧ (l.getD i ByteArray.empty).size ≤ 4096) ∧ Dist l i
def precOk (i : Nat) (m : Mv) : Prop := (m.d = 0 ∧ m.n = 0) ∨ (1 ≤ m.d ∧ 1 ≤ m.n ∧ m.n ≤ 3 ∧ 2 ≤ i)
def PrecsOk (l : List Mv) : Prop := ∀ i, i < l.length → precOk i (l.getD i mv0)
def GOk (g : Pl) : Prop := (KindsOk g.kinds ∧ g.precs.length = g.kinds.length ∧ PrecsOk g.precs ∧ RulesOk g.rules) ∧ ((0 ≤ g.start ∧ g.start < g.rules.length) ∧ g.prods.length ≤ 4096) ∧ ∀ i, i < g.prods.length → PrOk g (g.prods.getD i pr0)
noncomputable def checkG (g : Pl) : Int := if dec (GOk g) then 0 else 130
theorem checkG_t {g : Pl} (h : GOk g) : checkG g = 0 := by rw [checkG, dec_t h]; rfl
theorem checkG_f {g : Pl} (h : ¬ GOk g) : checkG g = 130 := by rw [checkG, dec_f h]; rfl
end Go.Proofs.YtkpehkadammppaaFx

/-! Inner rows of rows of the call's own: one at a time; appends whose result is dropped. -/
namespace Go.Proofs.YtkpehkadammppaaFx
open Go Go.RowKit
section
variable {P : Program} (w : World)
theorem run_append_keep (base : Nat) (t ty e : TypeId) (i : TypeInfo) (z : Value) (size bytes : Nat) (ht : P.underlying t = some (.slice e)) (hi : P.info? e = some i) (hz : i.zero = some z)
    (hsize : i.size = size) (hby : i.bytes = bytes) (hzs : z.cells.size = size) (hsz : 0 < size)
    (v : Value) (n : Nat) (xs : List Value) (hown : w.ownsRow base e size v n xs)
    (a : Addr) (m c : Nat) (news : List Value) (hl : news.length = m * size) (hnews : ∀ j u, news[j]? = some u → w.cell? (a.add j) = some u) (h1 : ∀ u ∈ news, u.oneCell' = true)
    (h63 : n + m ≤ maxLen) (hbytes : (n + m) * bytes ≤ 140737488355328) (hbase : base ≤ w.heap.size) (hm : 0 < m) :
    ∃ v' w', (Builtin.append_ #[t, t] ty #[v, .slice (some a) m c]).run P w = .ok v' w' ∧ w'.ownsRow base e size v n xs ∧ w.grownBy w' v.ownBlock := by
  subst hsize
  subst hby
  have hsmall : n + m ≤ 9223372036854775807 := by simp only [maxLen] at h63; omega
  rcases hown.2 with ⟨rfl, rfl⟩ | ⟨g, cap, cur, rfl, hbg, hg, hnc, hcm, hcs, htake⟩
  · have hr := run_append_nil (P := P) w t ty e i z ht hi hz a m c news hl hnews (by omega) (by omega) (by have hb := hbytes; simp only [Nat.zero_add] at hb; omega)
    exact ⟨_, _, hr, ⟨hown.1, .inl ⟨rfl, rfl⟩⟩, ⟨rfl, rfl, rfl, by simp, fun k hk _ => heap_alloc_old w.drew _ k hk⟩⟩
  · by_cases hroom : n + m ≤ cap
    · have hfit : n * i.size + news.length ≤ cur.size := by rw [hl, hcs, ← Nat.add_mul]; exact Nat.mul_le_mul_right _ hroom
      have hr := run_append_room (P := P) w t ty e i ht hi g n cap cur hg a m c news hl hnews h1 hroom hfit
      refine ⟨_, _, hr, ⟨hown.1, .inr ⟨g, cap, _, rfl, hbg, setRow_heap w g cur _ e _ hg, hnc, hcm, ?_, ?_⟩⟩, ⟨rfl, rfl, rfl, by simp, fun k _ hk => setRow_other w g k _ (fun e => hk (by simp [Value.ownBlock, e]))⟩⟩
      · simp only [List.size_toArray, List.length_append, List.length_take, List.length_drop, Array.length_toList]
        omega
      · have hl2 : (cur.toList.take (n * i.size)).length = n * i.size := by rw [htake]; exact hown.1
        have h3 : ((cur.toList.take (n * i.size) ++ news ++ cur.toList.drop (n * i.size + news.length)).toArray).toList.take (n * i.size) = cur.toList.take (n * i.size) := by
          rw [List.append_assoc]
          exact List.take_left' hl2
        rw [h3, htake]
    · have holds : ∀ j u, xs[j]? = some u → w.cell? ((⟨g, 0, none⟩ : Addr).add j) = some u := hown.cells (g := g) rfl
      have hr := run_append_grow (P := P) w t ty e i z ht hi hz ⟨g, 0, none⟩ n cap xs hown.1 holds a m c news hl hnews (by omega) (by omega) (growslice_fits (by omega) hbytes)
      have hgr : ∀ row, w.grownBy (w.drew.alloc (.cells (xs.toArray ++ news.toArray ++ Builtin.zeroCells z.cells (grownCap w (n + m) cap e - (n + m))) e)) row := fun row => ⟨rfl, rfl, rfl, by simp, fun k hk _ => heap_alloc_old w.drew _ k hk⟩
      exact ⟨_, _, hr, hown.kept (hgr none) (.inr (by simp [Value.ownBlock])), hgr _⟩
end
theorem getD_irr {α : Type} {xs : List α} {i : Nat} (h : i < xs.length) (a b : α) : xs.getD i a = xs.getD i b := by
  rw [List.getD_eq_getElem?_getD, List.getD_eq_getElem?_getD, List.getElem?_eq_getElem h]
  rfl
theorem del_app {L L' : List Ch} {A : Ch} (D : Del L A L') (M : List Ch) : Del (L ++ M) A (L' ++ M) := by
  induction D with
  | here A L => exact .here A _
  | there C h ih => exact .there C ih
theorem Holds.mergeAll {W0 w : World} {L1 L2 : List Ch} (H : Holds W0 (L1 ++ L2) w) : Holds W0 [] w ∧ ∃ S1 S2 : Nat → Prop, True ∧ True ∧ True ∧ HL L1 w S1 ∧ HL L2 w S2 := by
  obtain ⟨S1, S2, _, _, _, h4, h5⟩ := HL.unapp H.hl
  exact ⟨⟨H.old, trivial⟩, S1, S2, trivial, trivial, trivial, h4, h5⟩
section
variable {α : Type} {f : Fk α} {P : Program} {n : Nat} {Q : Post} {l : Fr} {w W0 : World} {L L' : List Ch} {ops : Array Oper} {rest : List Oper} {d : Nat} {x y : Operand} {ty t e : TypeId} {pos : String} {af : Array Edge} {v : Value} {xs : List α}
/-- append(s, x...) whose result is dropped: s stays as it is. -/
theorem wl_appDrop {z : Value} {bytes m c : Nat} {A : Option Addr} {news : List Value} {sx : Operand} (H : Holds W0 L w) (U : Upd L (Row f e v xs) (Row f e v xs) L) (hn : Nat.ble (d + 1) n = true)
    (ht : P.underlying t = some (.slice e)) (hi : (P.info? e).map (fun i => (i.zero, i.size, i.bytes)) = some (some z, f.sz, bytes)) (hz : z.cells.size = f.sz) (hs0 : 0 < f.sz)
    (hs : ev l sx = some v) (hx : ev l x = some (.slice A m c)) (hA : 0 < m → A = some (adr A)) (hl : news.length = m * f.sz) (hc : ∀ j u, news[j]? = some u → w.cell? ((adr A).add j) = some u) (h1 : ∀ u ∈ news, u.oneCell' = true)
    (hb : (xs.length + m) * bytes ≤ 140737488355328) (hb0 : 0 < bytes) (hm : 0 < m)
    (h : ∀ v' w', Holds W0 L w' → w.heap.size ≤ w'.heap.size → wl P n ops rest Q ((d, v') :: l) w') : wl P n ops (⟨some d, .call { callee := .builtin .append, args := #[sx, x], argTypes := #[t, t] }, ty, pos, af, none⟩ :: rest) Q l w := by
  obtain ⟨i0, hi1, hi2⟩ := Option.map_eq_some_iff.1 hi
  simp only [Prod.mk.injEq] at hi2
  obtain ⟨g1, g2, g3⟩ := hi2
  obtain ⟨S, hS, ⟨hSv, hown⟩, hstep⟩ := H.upd U
  have hlen : xs.length + m ≤ 140737488355328 := Nat.le_trans (Nat.le_mul_of_pos_right _ hb0) hb
  rw [hA hm] at hx
  obtain ⟨v1, w1, hr, hown1, hg⟩ := run_append_keep (P := P) w 0 t ty e i0 z f.sz bytes ht hi1 g1 g2 g3 hz hs0 v xs.length _ hown (adr A) m c news hl hc h1 (by simp only [maxLen]; omega) hb (Nat.zero_le _) hm
  refine wl_v rfl rfl hn (w' := w1) (v := v1) (fun a ha => ?_) (h v1 w1 ?_ hg.size)
  · simp [execOp, resolve, invoke, builtin, ha.eval hs, ha.eval hx, hr]
  · exact hstep w1 S hg.os hg.tape hg.output hg.size (fun k hk hn => hg.block k hk (fun e => hn (hSv k e.symm))) (fun k hk => .inl hk) ⟨hSv, hown1⟩
/-- A store of one cell of an element into a row of the call's own. -/
theorem wl_storeC {A : Option Addr} {m c k : Nat} {i : Int} {x' : α} {u : Value} {z0 : α} (H : Holds W0 L w) (U : Upd L (Row f e (.slice A m c) xs) (Row f e (.slice A m c) (xs.set i.toNat x')) L') (hsz : ∀ W, (sizeOf t).run P W = .ok 1 W) (hx : ev l x = some (.pointer (some (((adr A).add (i.toNat * f.sz)).add k)))) (hy : ev l y = some u) (hc : u.cells = [u].toArray) (h1 : u.oneCell' = true) (h0 : 0 ≤ i) (hi : i < xs.length) (hk : k < f.sz)
    (he : (f.enc (xs.getD i.toNat z0)).set k u = f.enc x') (h : ∀ w', Holds W0 L' w' → wl P n ops rest Q l w') : wl P n ops (⟨none, .store t x y, ty, pos, af, none⟩ :: rest) Q l w := by
  obtain ⟨S, hS, ⟨hSv, hown⟩, hstep⟩ := H.upd U
  have hlt : i.toNat < xs.length := by omega
  have hm : m = xs.length := (rd_of_own hown).1
  subst hm
  rcases hown.2 with ⟨hnil, hz⟩ | ⟨g, cap, cur, hv, _, hh, hnc, hcm, hsz2, hcur⟩
  · omega
  · injection hv with hA _ hcap
    subst hA hcap
    have hfl := flat_len f xs
    have hcl : cur.toList.length = c * f.sz := by simpa using hsz2
    have hle : xs.length * f.sz ≤ cur.toList.length := by rw [hcl]; exact Nat.mul_le_mul_right _ hnc
    have hoff : i.toNat * f.sz + f.sz ≤ xs.length * f.sz := by rw [← Nat.succ_mul]; exact Nat.mul_le_mul_right _ hlt
    obtain ⟨w', hr, g1, g2, g3, g4, g5, g6⟩ := run_storeCells_blk (P := P) (b := g) (t := e) (off := i.toNat * f.sz + k) [u] 0 w cur.toList _ (by simpa using hh) (put_splice cur.toList _ _ (by simp only [List.length_singleton]; omega)) (fun v hv => by rw [List.mem_singleton.1 hv]; exact h1)
    have hset : ∀ (ys : List Value) (j : Nat), j < ys.length → ys.take j ++ [u] ++ ys.drop (j + 1) = ys.set j u := fun ys j hj => by
      rw [List.set_eq_take_append_cons_drop, if_pos hj]; simp
    have hdef : z0 = z0 := rfl
    rw [List.length_singleton, Nat.add_zero, hset _ _ (by omega)] at g1
    refine wl_s (w' := w') rfl rfl (fun a ha => ?_) (h w' (hstep w' S g4 g5 g6 (by omega) (fun q hq hn => g2 q (fun e => hn (e ▸ hSv g (by simp [Value.ownBlock])))) (fun q hq => .inl hq) ⟨hSv, ?_⟩))
    · simp [execOp, ha.eval hx, ha.eval hy, Instr.storeAt, Instr.sureAddr, storeVar, hsz, hc, adr, Addr.add_lit, hr]
    · refine ⟨by rw [flat_len, List.length_set], .inr ⟨g, c, _, by rw [List.length_set], Nat.zero_le _, g1, by rw [List.length_set]; exact hnc, hcm, ?_, ?_⟩⟩
      · simp only [List.size_toArray, List.length_set, hcl]
      · have h2 := flat_set f xs i.toNat k x' u hlt hk (by rw [← he]; congr 2; exact getD_irr hlt _ _)
        rw [List.length_set]
        show (cur.toList.set (i.toNat * f.sz + k) u).take (xs.length * f.sz) = _
        rw [List.take_set, hcur, h2]
end
/-! ### one inner row -/
section
variable {α : Type} {f : Fk α} {w w' W0 : World} {A : Option Addr} {xss : List (List α)} {L : List Ch} {e e2 n c : Nat}
theorem zips_del (f : Fk α) (e : TypeId) : ∀ (vs : List Value) (xss : List (List α)) (i : Nat), vs.length = xss.length → i < xss.length → Del (zips f e vs xss) (Row f e (vs.getD i .nilFunc) (xss.getD i [])) (zips f e (vs.eraseIdx i) (xss.eraseIdx i))
  | [], [], i, _, hi => by simp at hi
  | [], _ :: _, _, h, _ => by simp at h
  | _ :: _, [], _, h, _ => by simp at h
  | v :: vs, x :: xss, 0, _, _ => .here _ _
  | v :: vs, x :: xss, i + 1, h, hi => .there _ (zips_del f e vs xss i (by simpa using h) (by simpa using hi))
theorem zips_ins (f : Fk α) (e : TypeId) (ys : List α) (L : List Ch) (hL : Pm L L) : ∀ (vs : List Value) (xss : List (List α)) (i : Nat), vs.length = xss.length → i < xss.length → Pm (Row f e (vs.getD i .nilFunc) ys :: (zips f e (vs.eraseIdx i) (xss.eraseIdx i) ++ L)) (zips f e vs (xss.set i ys) ++ L)
  | [], [], i, _, hi => by simp at hi
  | [], _ :: _, _, h, _ => by simp at h
  | _ :: _, [], _, h, _ => by simp at h
  | v :: vs, x :: xss, 0, _, _ => .cons (.here _ _) (pmrefl _)
  | v :: vs, x :: xss, i + 1, h, hi => .cons (.there _ (.here _ _)) (zips_ins f e ys L hL vs xss i (by simpa using h) (by simpa using hi))
where pmrefl : ∀ L : List Ch, Pm L L
  | [] => .nil _
  | A :: L => .cons (.here _ _) (pmrefl L)
theorem Pm.refl : ∀ L : List Ch, Pm L L
  | [] => .nil _
  | A :: L => .cons (.here _ _) (Pm.refl L)
theorem zips_len (f : Fk α) (e : TypeId) : ∀ (vs : List Value) (xss : List (List α)) (w : World) (S : Nat → Prop), vs.length = xss.length → HL (zips f e vs xss) w S → ∀ i, i < xss.length → ∃ B c, vs.getD i .nilFunc = .slice B (xss.getD i []).length c
  | [], [], _, _, _, _, i, hi => by simp at hi
  | [], _ :: _, _, _, h, _, _, _ => by simp at h
  | _ :: _, [], _, _, h, _, _, _ => by simp at h
  | v :: vs, x :: xss, w, S, h, hl, i, hi => by
    obtain ⟨S1, S2, _, _, _, h4, h5⟩ := hl
    cases i with
    | zero =>
      obtain ⟨B, c, hv, _⟩ := own_slice h4.2
      exact ⟨B, c, hv⟩
    | succ i => exact zips_len f e vs xss w S2 (by simpa using h) h5 i (by simpa using hi)
/-- One inner row, taken out; behind it, put back. -/
theorem Holds.rrAt {i : Nat} (H : Holds W0 (RR f e e2 (.slice A n c) xss :: L) w) (hi : i < xss.length) :
    ∃ (B : Option Addr) (cB : Nat) (R : List Ch), w.cell? ((adr A).add ((i : Int).toNat * 1)) = some (.slice B (xss.getD i []).length cB) ∧ Holds W0 (Row f e2 (.slice B (xss.getD i []).length cB) (xss.getD i []) :: R) w ∧
      ∀ (w' : World) (ys : List α), Holds W0 (Row f e2 (.slice B (xss.getD i []).length cB) ys :: R) w' → Holds W0 (RR f e e2 (.slice A n c) (xss.set i ys) :: L) w' := by
  obtain ⟨vs, hv, H1⟩ := H.rrOpen
  obtain ⟨B, cB, hB⟩ : ∃ B c, vs.getD i .nilFunc = .slice B (xss.getD i []).length c := by
    obtain ⟨_, S1, S2, _, _, _, ⟨T1, T2, _, _, _, _, g5⟩, _⟩ := H1.mergeAll
    exact zips_len f e2 vs xss w _ hv g5 i hi
  have hraw := H1.raw (.here _ _ _)
  obtain ⟨A', c', hA1, _, hA2, hcell⟩ := own_slice hraw
  injection hA1 with a1 a2 a3
  subst a1 a2 a3
  have hD := (zips_del f e2 vs xss i hv hi)
  refine ⟨B, cB, Raw e 1 (.slice A xss.length c) xss.length vs :: (zips f e2 (vs.eraseIdx i) (xss.eraseIdx i) ++ L), ?_, ?_, fun w' ys H' => ?_⟩
  · rw [Int.toNat_natCast, Nat.mul_one]
    refine hcell i _ ?_
    rw [← hB, List.getD_eq_getElem?_getD, List.getElem?_eq_getElem (by omega)]
    rfl
  · rw [← hB]
    exact H1.turn (.there _ (del_app hD L))
  · rw [← hB] at H'
    refine Holds.rrClose (vs := vs) (by rw [List.length_set]; exact hv) ?_
    rw [List.length_set]
    exact H'.pm (.cons (.there _ (.here _ _)) (zips_ins f e2 ys L (Pm.refl L) vs xss i hv hi))
end
/-- Rows of so many rows, none too long. -/
structure OLs {α : Type} (N : Nat) (xss : List (List α)) : Prop where
  len : xss.length = N
  all : ∀ r ∈ xss, r.length ≤ 1099511627776
theorem OLs.row {α : Type} {N i : Nat} {xss : List (List α)} (h : OLs N xss) (hi : i < N) : (xss.getD i []).length ≤ 1099511627776 := by
  have h1 := h.len
  have hl : i < xss.length := by omega
  rw [List.getD_eq_getElem?_getD, List.getElem?_eq_getElem hl]
  exact h.all _ (List.getElem_mem hl)
theorem OLs.set {α : Type} {N i : Nat} {xss : List (List α)} {ys : List α} (h : OLs N xss) (hi : i < N) (hy : ys.length = (xss.getD i []).length) : OLs N (xss.set i ys) ∧ ((xss.set i ys).getD i []).length = (xss.getD i []).length := by
  have hr := h.row hi
  have h1 := h.len
  refine ⟨⟨by rw [List.length_set]; exact h1, fun r hr' => ?_⟩, ?_⟩
  · rcases List.mem_or_eq_of_mem_set hr' with h2 | rfl
    · exact h.all r h2
    · omega
  · rw [List.getD_eq_getElem?_getD, List.getElem?_set_self (by omega)]
    exact hy
end Go.Proofs.YtkpehkadammppaaFx

/-! When a table is sound for a grammar: plainly. -/
namespace Go.Proofs.YtkpehkadammppaaFx
open Go Go.RowKit Go.MapKept
open Go.WideElems (Fit rd rg rd_key rd_val rg_of)
/-! ### lists without repeats; small maps -/
theorem nodup_lt : ∀ (n : Nat) (l : List Nat), l.Nodup → (∀ x ∈ l, x < n) → l.length ≤ n
  | 0, l, _, h => by
    cases l with
    | nil => simp
    | cons x r => exact absurd (h x (by simp)) (by omega)
  | n + 1, l, hn, h => by
    have h1 := nodup_lt n (l.filter (· != n)) (hn.sublist List.filter_sublist) fun x hx => by
      have := List.mem_filter.1 hx
      have h2 := h x this.1
      have h3 : x ≠ n := by simpa using this.2
      omega
    have h2 : l.length ≤ (l.filter (· != n)).length + 1 := by
      clear h1 h
      induction l with
      | nil => simp
      | cons x r ih =>
        obtain ⟨h3, h4⟩ := List.nodup_cons.1 hn
        by_cases hx : x = n
        · subst hx
          have h5 : r.filter (· != x) = r := List.filter_eq_self.2 fun y hy => by
            have : y ≠ x := fun e => h3 (e ▸ hy)
            simpa using this
          rw [List.filter_cons, if_neg (by simp), h5]
          simp
        · rw [List.filter_cons, if_pos (by simpa using hx)]
          have := ih h4
          simp only [List.length_cons]
          omega
    omega
theorem map_nodup {α β : Type} {f : α → β} : ∀ {l : List α}, (∀ x ∈ l, ∀ y ∈ l, f x = f y → x = y) → l.Nodup → (l.map f).Nodup
  | [], _, _ => by simp
  | a :: r, h, hn => by
    obtain ⟨h1, h2⟩ := List.nodup_cons.1 hn
    rw [List.map_cons, List.nodup_cons]
    refine ⟨fun hm => ?_, map_nodup (fun x hx y hy => h x (List.mem_cons_of_mem _ hx) y (List.mem_cons_of_mem _ hy)) h2⟩
    obtain ⟨y, hy, he⟩ := List.mem_map.1 hm
    exact h1 ((h y (List.mem_cons_of_mem _ hy) a (by simp) he) ▸ hy)
section
variable {P : Program} {kt : TypeId} {β : Type} {enc : β → Value} {f : Int → Option β} {b N n : Nat} {w : World} {S : Nat → Prop}
/-- Keys are few: so are the entries. -/
theorem Mp.tight {k : IntKind} {h : P.underlying kt = some (.int k)} (hk : ∀ x, (f x).isSome = true → 0 ≤ x ∧ x < n) (H : (Mp (keyInt (k := k) h) enc b N f).p w S) : (Mp (keyInt (k := k) h) enc b n f).p w S := by
  obtain ⟨h1, D, ⟨es, clock, hb, F, hs, rfl⟩, hv⟩ := H
  refine ⟨h1, _, ⟨es, clock, hb, F, ?_, rfl⟩, hv⟩
  have hnd : (es.toList.map (·.key)).Nodup := F.stamped.2.2
  have hkey : ∀ e ∈ es.toList, ∃ x : Int, e.key = .int k x ∧ 0 ≤ x ∧ x < n := fun e he => by
    obtain ⟨y, hy⟩ := F.reads e he
    obtain ⟨x, hx, he2, _⟩ := (keyInt (k := k) h).surj (rd_key hy)
    exact ⟨x, he2, hk x ((View.some_iff F hv hx).2 ⟨e, he, he2⟩)⟩
  have g : ∀ v ∈ es.toList.map (·.key), ∃ x : Int, v = .int k x ∧ 0 ≤ x ∧ x < n := fun v hv => by
    obtain ⟨e, he, rfl⟩ := List.mem_map.1 hv
    exact hkey e he
  let fn : Value → Nat := fun v => match v with
    | .int _ x => x.toNat
    | _ => 0
  have h2 := nodup_lt n ((es.toList.map (·.key)).map fn) (map_nodup (fun v hv u hu he => by
    obtain ⟨x, rfl, hx, _⟩ := g v hv
    obtain ⟨y, rfl, hy, _⟩ := g u hu
    have : x.toNat = y.toNat := he
    rw [show x = y by omega]) hnd) fun j hj => by
      obtain ⟨v, hv, rfl⟩ := List.mem_map.1 hj
      obtain ⟨x, rfl, hx, hxn⟩ := g v hv
      show x.toNat < n
      omega
  simpa using h2
end
/-! ### ways -/
def Stp (g : Pl) (t : Tb) (s : Nat) (x : Int) (q : Nat) : Prop :=
  (∃ k, k < (t.mv.getD s []).length ∧ x = (k : Int) ∧ ((t.mv.getD s []).getD k mv0).d = 1 ∧ ((t.mv.getD s []).getD k mv0).n = (q : Int)) ∨
  (∃ k, k < (t.go.getD s []).length ∧ x = (g.kinds.length : Int) + k ∧ (t.go.getD s []).getD k 0 = (q : Int))
inductive Rch (g : Pl) (t : Tb) : Nat → Prop
  | zero : Rch g t 0
  | step {s : Nat} {x : Int} {q : Nat} (h : Rch g t s) (hs : Stp g t s x q) : Rch g t q
def Edg (g : Pl) (t : Tb) (s : Nat) (x : Int) (q : Nat) : Prop := Rch g t s ∧ Stp g t s x q
/-- So many steps back. -/
def Bk (g : Pl) (t : Tb) (s0 : Nat) : Nat → Nat → Prop
  | 0, q => q = s0
  | j + 1, q => ∃ x q', Edg g t q x q' ∧ Bk g t s0 j q'
def BkOk (g : Pl) (t : Tb) (s : Nat) (right : List Int) (j : Nat) : Prop := ¬ Bk g t s j 0 ∧ ∀ q x q', Edg g t q x q' → Bk g t s j q' → x = right.getD (right.length - 1 - j) 0
def EndsOk (g : Pl) (t : Tb) (s : Nat) (p : Pr) : Prop := (∀ j, j < p.right.length → BkOk g t s p.right j) ∧ ∀ q, q < t.mv.length → Bk g t s p.right.length q → 0 ≤ (t.go.getD q []).getD p.left.toNat 0
def AccOk (g : Pl) (t : Tb) (s : Nat) : Prop := s ≠ 0 ∧ (∀ q x, ¬ Edg g t q x 0) ∧ ∀ q x, Edg g t q x s → q = 0 ∧ x = (g.kinds.length : Int) + g.start
def MvS (g : Pl) (t : Tb) (s k : Nat) : Prop := (((t.mv.getD s []).getD k mv0).d = 2 → EndsOk g t s (g.prods.getD ((t.mv.getD s []).getD k mv0).n.toNat pr0)) ∧ (((t.mv.getD s []).getD k mv0).d = 3 → k = 0 ∧ AccOk g t s)
def StOk (g : Pl) (t : Tb) (s : Nat) : Prop := ∀ k, k < (t.mv.getD s []).length → MvS g t s k
/-- What is told. -/
def SRes (g : Pl) (t : Tb) (a e : Int) : Prop :=
  (¬ GOk g ∧ a = 0 ∧ e = 130) ∨ (GOk g ∧ checkF t g.kinds.length g.rules.length g.prods.length ≠ 0 ∧ a = 0 ∧ e = 170) ∨
  (GOk g ∧ checkF t g.kinds.length g.rules.length g.prods.length = 0 ∧ ((∃ s : Nat, a = s ∧ e = 170 ∧ s < t.mv.length ∧ (Rch g t s ∧ ¬ StOk g t s) ∧ ∀ s', s' < s → Rch g t s' → StOk g t s') ∨ (a = 0 ∧ e = 0 ∧ ∀ s', s' < t.mv.length → Rch g t s' → StOk g t s')))
theorem SRes.unique {g : Pl} {t : Tb} {a e a' e' : Int} (h : SRes g t a e) (h' : SRes g t a' e') : a = a' ∧ e = e' := by
  rcases h with ⟨h1, rfl, rfl⟩ | ⟨h1, h2, rfl, rfl⟩ | ⟨h1, h2, h3⟩ <;> rcases h' with ⟨g1, rfl, rfl⟩ | ⟨g1, g2, rfl, rfl⟩ | ⟨g1, g2, g3⟩
  · exact ⟨rfl, rfl⟩
  · exact absurd g1 h1
  · exact absurd g1 h1
  · exact absurd h1 g1
  · exact ⟨rfl, rfl⟩
  · exact absurd g2 h2
  · exact absurd h1 g1
  · exact absurd h2 g2
  · rcases h3 with ⟨s, rfl, rfl, b1, b2, b3⟩ | ⟨rfl, rfl, b3⟩ <;> rcases g3 with ⟨s', rfl, rfl, d1, d2, d3⟩ | ⟨rfl, rfl, d3⟩
    · rcases Nat.lt_trichotomy s s' with hs | rfl | hs
      · exact absurd (d3 s hs b2.1) b2.2
      · exact ⟨rfl, rfl⟩
      · exact absurd (b3 s' hs d2.1) d2.2
    · exact absurd (d3 s b1 b2.1) b2.2
    · exact absurd (b3 s' d1 d2.1) d2.2
    · exact ⟨rfl, rfl⟩
section
variable {g : Pl} {t : Tb}
theorem checkF_good {k r p : Int} (h : checkF t k r p = 0) : TGood t k r p := by
  rcases Classical.em (k < 2 ∨ r < 0 ∨ p < 0) with h1 | h1
  · rw [checkF_arg h1] at h; simp at h
  · rcases Classical.em (TGood t k r p) with h2 | h2
    · exact h2
    · rw [checkF_bad h1 h2] at h; simp at h
/-- A table that fits a grammar. -/
abbrev Fit2 (g : Pl) (t : Tb) : Prop := TGood t g.kinds.length g.rules.length g.prods.length
theorem Fit2.stp (h : Fit2 g t) {s q : Nat} {x : Int} (hs : s < t.mv.length) (hst : Stp g t s x q) : q < t.mv.length := by
  obtain ⟨_, _, _, h4⟩ := h
  obtain ⟨_, _, h7, h8⟩ := h4 s hs
  rcases hst with ⟨k, hk, _, hd, hn⟩ | ⟨k, hk, _, hn⟩
  · have := h7 k hk
    unfold mvOk at this
    omega
  · have := h8 k hk
    unfold goOk at this
    omega
theorem Fit2.rch (h : Fit2 g t) {s : Nat} (hr : Rch g t s) : s < t.mv.length := by
  induction hr with
  | zero => have := h.1; omega
  | step _ hs ih => exact h.stp ih hs
/-- Marks that begin with 0, are closed, and mark nothing else. -/
theorem marks_rch {M : Nat → Prop} (h0 : M 0) (hc : ∀ s x q, M s → Stp g t s x q → M q) {s : Nat} (h : Rch g t s) : M s := by
  induction h with
  | zero => exact h0
  | step _ hs ih => exact hc _ _ _ ih hs
end
end Go.Proofs.YtkpehkadammppaaFx

/-! Inner rows of rows of the call's own that grow; rows of empty rows. -/
namespace Go.Proofs.YtkpehkadammppaaFx
open Go Go.RowKit
/-- Chunks picked, with a tail that stays. -/
inductive Sfx (T : List Ch) : List Ch → Prop
  | refl : Sfx T T
  | skip {L : List Ch} (A : Ch) (h : Sfx T L) : Sfx T (A :: L)
inductive PmT (T : List Ch) : List Ch → List Ch → Prop
  | fin {L : List Ch} (h : Sfx T L) : PmT T L T
  | cons {L L1 L' : List Ch} {A : Ch} (D : Del L A L1) (h : PmT T L1 L') : PmT T L (A :: L')
theorem HL.sfx {T L : List Ch} (h : Sfx T L) : ∀ {w : World} {S : Nat → Prop}, HL L w S → HL T w S := by
  induction h with
  | refl => exact fun h => h
  | skip A h ih =>
    rintro w S ⟨S1, S2, h1, h2, h3, h4, h5⟩
    exact HL.mono h2 (ih h5)
theorem HL.pmt {T L L' : List Ch} (h : PmT T L L') : ∀ {w : World} {S : Nat → Prop}, HL L w S → HL L' w S := by
  induction h with
  | fin h => exact HL.sfx h
  | cons D h ih =>
    intro w S hl
    obtain ⟨S1, S2, h1, h2, h3, h4, h5⟩ := HL.del D hl
    exact ⟨S1, S2, h1, h2, h3, h4, ih h5⟩
theorem Holds.pmt {W0 w : World} {T L L' : List Ch} (H : Holds W0 L w) (h : PmT T L L') : Holds W0 L' w := ⟨H.old, HL.pmt h H.hl⟩
/-- A slice. -/
structure Hd where
  A : Option Addr
  n : Nat
  c : Nat
abbrev Hd.val (h : Hd) : Value := .slice h.A h.n h.c
def fHd : Fk Hd := ⟨1, fun h => [h.val], fun _ => rfl, fun x u hu => by rw [List.mem_singleton.1 hu]; rfl⟩
def hd0 : Hd := ⟨none, 0, 0⟩
def toHd : Value → Hd
  | .slice A n c => ⟨A, n, c⟩
  | _ => hd0
theorem hd_flat (hs : List Hd) : hs.flatMap fHd.enc = hs.map Hd.val := by
  induction hs with
  | nil => rfl
  | cons h r ih => rw [List.flatMap_cons, ih]; rfl
theorem hd_row (e : TypeId) (v : Value) (hs : List Hd) : Row fHd e v hs = Raw e 1 v hs.length (hs.map Hd.val) := by
  unfold Row
  rw [hd_flat]
  rfl
theorem hd_all : ∀ {vs : List Value}, (∀ i, i < vs.length → ∃ B n c, vs.getD i .nilFunc = .slice B n c) → (vs.map toHd).map Hd.val = vs
  | [], _ => rfl
  | v :: vs, h => by
    obtain ⟨B, n, c, h0⟩ := h 0 (by simp)
    have h1 : v = .slice B n c := h0
    rw [List.map_cons, List.map_cons, hd_all (vs := vs) fun i hi => by
      have := h (i + 1) (by simpa using hi)
      simpa using this]
    subst h1
    rfl
section
variable {α : Type} {f : Fk α} {w w' W0 : World} {A : Option Addr} {xss : List (List α)} {L : List Ch} {e e2 n c : Nat}
/-- Chunks as one. -/
def Zs (Ls : List Ch) : Ch where
  p := fun w S => HL Ls w S
  st := fun h hp => HL.st h hp
theorem Holds.zsIn {A B : Ch} {Ls : List Ch} (H : Holds W0 (A :: B :: (Ls ++ L)) w) : Holds W0 (A :: B :: Zs Ls :: L) w := by
  obtain ⟨ho, S1, S2, h1, h2, h3, h4, T1, T2, g1, g2, g3, g4, g5⟩ := H
  obtain ⟨U1, U2, k1, k2, k3, k4, k5⟩ := HL.unapp g5
  exact ⟨ho, S1, S2, h1, h2, h3, h4, T1, T2, g1, g2, g3, g4, U1, U2, k1, k2, k3, k4, k5⟩
theorem Holds.zsOut {A B : Ch} {Ls : List Ch} (H : Holds W0 (A :: B :: Zs Ls :: L) w) : Holds W0 (A :: B :: (Ls ++ L)) w := by
  obtain ⟨ho, S1, S2, h1, h2, h3, h4, T1, T2, g1, g2, g3, g4, U1, U2, k1, k2, k3, k4, k5⟩ := H
  exact ⟨ho, S1, S2, h1, h2, h3, h4, T1, T2, g1, g2, g3, g4, HL.app k1 k2 k3 k4 k5⟩
/-- One inner row, taken out, to be put back as another one. -/
theorem Holds.rrTake {i : Nat} (H : Holds W0 (RR f e e2 (.slice A n c) xss :: L) w) (hi : i < xss.length) :
    ∃ (hs : List Hd) (Z : Ch), hs.length = xss.length ∧ (hs.getD i hd0).n = (xss.getD i []).length ∧ w.cell? ((adr A).add ((i : Int).toNat * 1)) = some (hs.getD i hd0).val ∧ Holds W0 (Row f e2 (hs.getD i hd0).val (xss.getD i []) :: Row fHd e (.slice A n c) hs :: Z :: L) w ∧
      ∀ (w' : World) (h' : Hd) (ys : List α), Holds W0 (Row f e2 h'.val ys :: Row fHd e (.slice A n c) (hs.set i h') :: Z :: L) w' → Holds W0 (RR f e e2 (.slice A n c) (xss.set i ys) :: L) w' := by
  obtain ⟨vs, hv, H1⟩ := H.rrOpen
  have hz : ∀ i, i < xss.length → ∃ B c, vs.getD i .nilFunc = .slice B (xss.getD i []).length c := by
    obtain ⟨_, S1, S2, _, _, _, ⟨T1, T2, _, _, _, _, g5⟩, _⟩ := H1.mergeAll
    exact zips_len f e2 vs xss w _ hv g5
  have hall : (vs.map toHd).map Hd.val = vs := hd_all fun j hj => by
    obtain ⟨B, c, h⟩ := hz j (by omega)
    exact ⟨B, _, c, h⟩
  obtain ⟨hs, hhs⟩ : ∃ hs, hs = vs.map toHd := ⟨_, rfl⟩
  rw [← hhs] at hall
  have hl : hs.length = xss.length := by rw [hhs, List.length_map, hv]
  have hget : vs.getD i .nilFunc = (hs.getD i hd0).val := by
    rw [← hall, List.getD_eq_getElem?_getD, List.getElem?_map, List.getElem?_eq_getElem (by omega), List.getD_eq_getElem?_getD, List.getElem?_eq_getElem (by omega)]
    rfl
  have hraw := H1.raw (.here _ _ _)
  obtain ⟨A', c', hA1, _, hA2, hcell⟩ := own_slice hraw
  injection hA1 with a1 a2 a3
  subst a1 a2 a3
  have hrow : Raw e 1 (.slice A xss.length c) xss.length vs = Row fHd e (.slice A xss.length c) hs := by rw [hd_row, hall, hl]
  refine ⟨hs, Zs (zips f e2 (vs.eraseIdx i) (xss.eraseIdx i)), hl, ?_, ?_, ?_, fun w' h' ys H' => ?_⟩
  · obtain ⟨B, c1, hB⟩ := hz i hi
    rw [hget] at hB
    injection hB with _ h2 _
  · rw [Int.toNat_natCast, Nat.mul_one]
    refine hcell i _ ?_
    rw [← hget, List.getD_eq_getElem?_getD, List.getElem?_eq_getElem (by omega)]
    rfl
  · rw [← hget, ← hrow]
    exact (H1.turn (.there _ (del_app (zips_del f e2 vs xss i hv hi) L))).zsIn
  · refine Holds.rrClose (vs := vs.set i h'.val) (by rw [List.length_set, List.length_set]; exact hv) ?_
    rw [List.length_set]
    have h1 : Row fHd e (.slice A xss.length c) (hs.set i h') = Raw e 1 (.slice A xss.length c) xss.length (vs.set i h'.val) := by
      rw [hd_row, List.length_set, hl, List.map_set, hall]
    rw [h1] at H'
    replace H' := H'.zsOut
    have h2 : (vs.set i h'.val).getD i .nilFunc = h'.val := by
      rw [List.getD_eq_getElem?_getD, List.getElem?_set_self (by omega)]
      rfl
    have h3 : (vs.set i h'.val).eraseIdx i = vs.eraseIdx i := List.eraseIdx_set_eq
    have h4 := zips_ins f e2 ys L (Pm.refl L) (vs.set i h'.val) xss i (by rw [List.length_set]; exact hv) hi
    rw [h2, h3] at h4
    exact H'.pm (.cons (.there _ (.here _ _)) h4)
theorem zips_nil (f : Fk α) (e : TypeId) (w : World) : ∀ N, HL (zips f e (List.replicate N (.slice none 0 0)) (List.replicate N [])) w (fun _ => False)
  | 0 => trivial
  | N + 1 => ⟨fun _ => False, fun _ => False, fun _ h => h, fun _ h => h, fun _ h => h.elim, ⟨fun k hk => by simp [Value.ownBlock] at hk, by simp, .inl ⟨rfl, rfl⟩⟩, zips_nil f e w N⟩
/-- A row of empty rows that was made. -/
theorem Holds.rrMade {v : Value} {N : Nat} (H : Holds W0 (Row fHd e v (List.replicate N hd0) :: L) w) : Holds W0 (RR f e e2 v (List.replicate N []) :: L) w := by
  refine H.head_imp fun S h => ⟨List.replicate N (.slice none 0 0), by simp, S, fun _ => False, fun _ h => h, fun _ h => h.elim, fun _ _ h => h, ?_, zips_nil f e2 w N⟩
  rw [hd_row] at h
  simpa [hd0] using h
end
end Go.Proofs.YtkpehkadammppaaFx

/-! Steps laid down: what is known on the way. -/
namespace Go.Proofs.YtkpehkadammppaaFx
open Go Go.RowKit
/-- A literal's block is a row. -/
theorem Holds.litRow {α : Type} {f : Fk α} {W0 w : World} {L : List Ch} {b : Nat} {e : TypeId} {xs : List α} (H : Holds W0 (Blk b e (xs.flatMap f.enc) :: L) w) (hm : xs.length ≤ maxLen) : Holds W0 (Row f e (.slice (some ⟨b, 0, none⟩) xs.length xs.length) xs :: L) w := by
  have hfl := flat_len f xs
  generalize hcs : xs.flatMap f.enc = cs at H hfl
  refine H.head_imp fun S (h : S b ∧ w.heap[b]? = some (.cells cs.toArray e (0, 0))) => ⟨fun k hk => ?_, flat_len f xs, .inr ⟨b, xs.length, cs.toArray, rfl, Nat.zero_le _, h.2, Nat.le_refl _, hm, ?_, ?_⟩⟩
  · have : b = k := by simpa [Value.ownBlock] using hk
    rw [← this]
    exact h.1
  · simpa using hfl
  · rw [hcs, ← hfl]
    simp
theorem set_get {α : Type} {xs : List α} {i j : Nat} {z y : α} (hi : i < xs.length) : (xs.set i y).getD j z = if j = i then y else xs.getD j z := by
  rw [List.getD_eq_getElem?_getD, List.getD_eq_getElem?_getD, List.getElem?_set]
  by_cases h : i = j
  · subst h
    rw [if_pos rfl, if_pos rfl, if_pos hi]
    rfl
  · rw [if_neg h, if_neg (fun e => h e.symm)]
variable {g : Pl} {t : Tb}
structure EdI (g : Pl) (t : Tb) (D : Nat → Int → Nat → Prop) (todo : List Int) (met : List Bool) (xss : List (List Mv)) (c : Nat) : Prop where
  lm : met.length = t.mv.length
  lx : xss.length = t.mv.length
  h0 : (0 : Int) ∈ todo
  hm : ∀ q, q < t.mv.length → (met.getD q false = true ↔ (q : Int) ∈ todo)
  hr : ∀ v ∈ todo, ∃ q : Nat, v = q ∧ q < t.mv.length ∧ Rch g t q
  nd : todo.Nodup
  hx : ∀ q, q < t.mv.length → ∀ y : Mv, y ∈ xss.getD q [] ↔ ∃ s : Nat, y.d = s ∧ D s y.n q
  hD : ∀ s x q, D s x q → (s : Int) ∈ todo ∧ Stp g t s x q ∧ (q : Int) ∈ todo
  hc : ∀ q, (xss.getD q []).length ≤ c
section
variable {D D' : Nat → Int → Nat → Prop} {todo todo2 : List Int} {met met2 : List Bool} {xss : List (List Mv)} {c s q : Nat} {x : Int}
theorem EdI.cong (h : EdI g t D todo met xss c) (hc : c ≤ s) (hD : ∀ s x q, D s x q ↔ D' s x q) : EdI g t D' todo met xss s :=
  ⟨h.lm, h.lx, h.h0, h.hm, h.hr, h.nd, fun q hq y => (h.hx q hq y).trans ⟨fun ⟨s, h1, h2⟩ => ⟨s, h1, (hD _ _ _).1 h2⟩, fun ⟨s, h1, h2⟩ => ⟨s, h1, (hD _ _ _).2 h2⟩⟩, fun s x q hh => h.hD s x q ((hD _ _ _).2 hh), fun q => Nat.le_trans (h.hc q) hc⟩
theorem EdI.len (h : EdI g t D todo met xss c) : todo.length ≤ t.mv.length := by
  have h1 := nodup_lt t.mv.length (todo.map Int.toNat) (map_nodup (fun v hv u hu he => by
    obtain ⟨a, rfl, _⟩ := h.hr v hv
    obtain ⟨b, rfl, _⟩ := h.hr u hu
    rw [Int.toNat_natCast, Int.toNat_natCast] at he
    rw [he]) h.nd) fun j hj => by
      obtain ⟨v, hv, rfl⟩ := List.mem_map.1 hj
      obtain ⟨a, rfl, ha, _⟩ := h.hr v hv
      rwa [Int.toNat_natCast]
  rwa [List.length_map] at h1
theorem EdI.add (h : EdI g t D todo met xss c) (hs : (s : Int) ∈ todo) (hst : Stp g t s x q) (hq : q < t.mv.length)
    (hcase : (met.getD q false = true ∧ met2 = met ∧ todo2 = todo) ∨ (met.getD q false = false ∧ met2 = met.set q true ∧ todo2 = todo ++ [(q : Int)])) :
    EdI g t (fun s' x' q' => D s' x' q' ∨ (s' = s ∧ x' = x ∧ q' = q)) todo2 met2 (xss.set q (xss.getD q [] ++ [⟨s, x⟩])) (c + 1) := by
  have hsub : ∀ v, v ∈ todo → v ∈ todo2 := fun v hv => by
    rcases hcase with ⟨_, _, rfl⟩ | ⟨_, _, rfl⟩
    · exact hv
    · exact List.mem_append_left _ hv
  have hqin : (q : Int) ∈ todo2 := by
    rcases hcase with ⟨h1, _, rfl⟩ | ⟨_, _, rfl⟩
    · exact (h.hm q hq).1 h1
    · exact List.mem_append_right _ (List.mem_singleton.2 rfl)
  have hrq : Rch g t q := by
    obtain ⟨s', e, _, hr⟩ := h.hr _ hs
    have : s' = s := by omega
    subst this
    exact .step hr hst
  refine ⟨?_, by rw [List.length_set]; exact h.lx, hsub _ h.h0, fun q' hq' => ?_, fun v hv => ?_, ?_, fun q' hq' y => ?_, fun s' x' q' hh => ?_, fun q' => ?_⟩
  · rcases hcase with ⟨_, rfl, _⟩ | ⟨_, rfl, _⟩
    · exact h.lm
    · rw [List.length_set]; exact h.lm
  · rcases hcase with ⟨_, rfl, rfl⟩ | ⟨h1, rfl, rfl⟩
    · exact h.hm q' hq'
    · rw [set_get (by rw [h.lm]; exact hq)]
      by_cases e : q' = q
      · subst e
        simp
      · rw [if_neg e, h.hm q' hq', List.mem_append, List.mem_singleton]
        exact ⟨.inl, fun hh => hh.elim id fun e2 => absurd (by omega) e⟩
  · rcases hcase with ⟨_, _, rfl⟩ | ⟨_, _, rfl⟩
    · exact h.hr v hv
    · rcases List.mem_append.1 hv with h1 | h1
      · exact h.hr v h1
      · exact ⟨q, List.mem_singleton.1 h1, hq, hrq⟩
  · rcases hcase with ⟨_, _, rfl⟩ | ⟨h1, _, rfl⟩
    · exact h.nd
    · have hn : (q : Int) ∉ todo := fun hm => by rw [(h.hm q hq).2 hm] at h1; cases h1
      rw [List.nodup_append]
      refine ⟨h.nd, by simp, fun a ha b hb e => ?_⟩
      rw [List.mem_singleton.1 hb] at e
      exact hn (e ▸ ha)
  · rw [set_get (by rw [h.lx]; exact hq)]
    by_cases e : q' = q
    · subst e
      rw [if_pos rfl, List.mem_append, List.mem_singleton, h.hx q' hq]
      constructor
      · rintro (⟨s1, h1, h2⟩ | rfl)
        · exact ⟨s1, h1, .inl h2⟩
        · exact ⟨s, rfl, .inr ⟨rfl, rfl, rfl⟩⟩
      · rintro ⟨s1, h1, h2 | ⟨rfl, h3, _⟩⟩
        · exact .inl ⟨s1, h1, h2⟩
        · right
          cases y
          simp only at h1 h3
          rw [h1, h3]
    · rw [if_neg e, h.hx q' hq']
      exact ⟨fun ⟨s1, h1, h2⟩ => ⟨s1, h1, .inl h2⟩, fun ⟨s1, h1, h2⟩ => ⟨s1, h1, h2.elim id fun h3 => absurd h3.2.2 e⟩⟩
  · rcases hh with hh | ⟨rfl, rfl, rfl⟩
    · obtain ⟨h1, h2, h3⟩ := h.hD _ _ _ hh
      exact ⟨hsub _ h1, h2, hsub _ h3⟩
    · exact ⟨hsub _ hs, hst, hqin⟩
  · rw [set_get (by rw [h.lx]; exact hq)]
    split
    · have := h.hc q
      rw [List.length_append, List.length_singleton]
      omega
    · have := h.hc q'
      omega
theorem EdI.start (h : 0 < t.mv.length) : EdI g t (fun _ _ _ => False) [0] ((List.replicate t.mv.length false).set 0 true) (List.replicate t.mv.length []) 0 where
  lm := by simp
  lx := by simp
  h0 := by simp
  hm := fun q hq => by
    rw [set_get (by simpa using h)]
    by_cases e : q = 0
    · simp [e]
    · rw [if_neg e, List.getD_eq_getElem?_getD, List.getElem?_replicate, if_pos hq]
      simp [e]
  hr := fun v hv => ⟨0, List.mem_singleton.1 hv, h, .zero⟩
  nd := by simp
  hx := fun q hq y => by
    rw [List.getD_eq_getElem?_getD, List.getElem?_replicate, if_pos hq]
    simp
  hD := fun s x q hh => hh.elim
  hc := fun q => by
    rw [List.getD_eq_getElem?_getD, List.getElem?_replicate]
    split <;> simp
/-- The steps of a state by its first moves; by its first gotos, too. -/
def StM (g : Pl) (t : Tb) (s k : Nat) (x : Int) (q : Nat) : Prop := ∃ j, j < k ∧ j < (t.mv.getD s []).length ∧ x = (j : Int) ∧ ((t.mv.getD s []).getD j mv0).d = 1 ∧ ((t.mv.getD s []).getD j mv0).n = (q : Int)
def StG (g : Pl) (t : Tb) (s k : Nat) (x : Int) (q : Nat) : Prop := ∃ j, j < k ∧ j < (t.go.getD s []).length ∧ x = (g.kinds.length : Int) + j ∧ (t.go.getD s []).getD j 0 = (q : Int)
theorem stp_iff {s q : Nat} {x : Int} {k k' : Nat} (hk : (t.mv.getD s []).length ≤ k) (hk' : (t.go.getD s []).length ≤ k') : Stp g t s x q ↔ StM g t s k x q ∨ StG g t s k' x q := by
  constructor
  · rintro (⟨j, h1, h2⟩ | ⟨j, h1, h2⟩)
    · exact .inl ⟨j, by omega, h1, h2⟩
    · exact .inr ⟨j, by omega, h1, h2⟩
  · rintro (⟨j, _, h1, h2⟩ | ⟨j, _, h1, h2⟩)
    · exact .inl ⟨j, h1, h2⟩
    · exact .inr ⟨j, h1, h2⟩
theorem stm_skip {k : Nat} (hk : k < (t.mv.getD s []).length) (h : ((t.mv.getD s []).getD k mv0).d ≠ 1) : ∀ x q, StM g t s (k + 1) x q ↔ StM g t s k x q := fun x q =>
  ⟨fun ⟨j, h1, h2, h3, h4, h5⟩ => ⟨j, Nat.lt_of_le_of_ne (by omega) (fun e => h (e ▸ h4)), h2, h3, h4, h5⟩, fun ⟨j, h1, h2⟩ => ⟨j, by omega, h2⟩⟩
theorem stm_add {k : Nat} {q0 : Nat} (hk : k < (t.mv.getD s []).length) (h : ((t.mv.getD s []).getD k mv0).d = 1) (hq : ((t.mv.getD s []).getD k mv0).n = (q0 : Int)) : ∀ x q, StM g t s (k + 1) x q ↔ StM g t s k x q ∨ (x = (k : Int) ∧ q = q0) := fun x q =>
  ⟨fun ⟨j, h1, h2, h3, h4, h5⟩ => by
    rcases (by omega : j < k ∨ j = k) with e | rfl
    · exact .inl ⟨j, e, h2, h3, h4, h5⟩
    · exact .inr ⟨h3, by omega⟩, fun hh => by
    rcases hh with ⟨j, h1, h2⟩ | ⟨rfl, rfl⟩
    · exact ⟨j, by omega, h2⟩
    · exact ⟨k, by omega, hk, rfl, h, hq⟩⟩
theorem stg_skip {k : Nat} (hk : k < (t.go.getD s []).length) (h : (t.go.getD s []).getD k 0 < 0) : ∀ x q, StG g t s (k + 1) x q ↔ StG g t s k x q := fun x q =>
  ⟨fun ⟨j, h1, h2, h3, h4⟩ => ⟨j, Nat.lt_of_le_of_ne (by omega) (fun e => by subst e; omega), h2, h3, h4⟩, fun ⟨j, h1, h2⟩ => ⟨j, by omega, h2⟩⟩
theorem stg_add {k : Nat} {q0 : Nat} (hk : k < (t.go.getD s []).length) (hq : (t.go.getD s []).getD k 0 = (q0 : Int)) : ∀ x q, StG g t s (k + 1) x q ↔ StG g t s k x q ∨ (x = (g.kinds.length : Int) + k ∧ q = q0) := fun x q =>
  ⟨fun ⟨j, h1, h2, h3, h4⟩ => by
    rcases (by omega : j < k ∨ j = k) with e | rfl
    · exact .inl ⟨j, e, h2, h3, h4⟩
    · exact .inr ⟨h3, by omega⟩, fun hh => by
    rcases hh with ⟨j, h1, h2⟩ | ⟨rfl, rfl⟩
    · exact ⟨j, by omega, h2⟩
    · exact ⟨k, by omega, hk, rfl, hq⟩⟩
theorem stm_zero : ∀ x q, ¬ StM g t s 0 x q := fun x q ⟨j, h, _⟩ => by omega
theorem stg_zero : ∀ x q, ¬ StG g t s 0 x q := fun x q ⟨j, h, _⟩ => by omega
/-- Done: all steps of some states; of one state more, some. -/
def Dn (g : Pl) (t : Tb) (dn : List Int) (s k k' : Nat) (s' : Nat) (x : Int) (q : Nat) : Prop := ((s' : Int) ∈ dn ∧ Stp g t s' x q) ∨ (s' = s ∧ (StM g t s k x q ∨ StG g t s k' x q))
def D0 (g : Pl) (t : Tb) (dn : List Int) (s' : Nat) (x : Int) (q : Nat) : Prop := (s' : Int) ∈ dn ∧ Stp g t s' x q
theorem d0_nil : ∀ s x q, False ↔ D0 g t [] s x q := fun s x q => ⟨fun h => h.elim, fun h => by simpa using h.1⟩
theorem dn_first {dn : List Int} : ∀ s' x q, D0 g t dn s' x q ↔ Dn g t dn s 0 0 s' x q := fun s' x q =>
  ⟨.inl, fun h => h.elim id fun h => h.2.elim (fun h => absurd h (stm_zero _ _)) (fun h => absurd h (stg_zero _ _))⟩
theorem dn_last {dn : List Int} {k k' : Nat} (hk : (t.mv.getD s []).length ≤ k) (hk' : (t.go.getD s []).length ≤ k') : ∀ s' x q, Dn g t dn s k k' s' x q ↔ D0 g t (dn ++ [(s : Int)]) s' x q := fun s' x q => by
  unfold Dn D0
  rw [← stp_iff hk hk', List.mem_append, List.mem_singleton]
  constructor
  · rintro (⟨h1, h2⟩ | ⟨rfl, h2⟩)
    · exact ⟨.inl h1, h2⟩
    · exact ⟨.inr rfl, h2⟩
  · rintro ⟨h1 | h1, h2⟩
    · exact .inl ⟨h1, h2⟩
    · have : s' = s := by omega
      subst this
      exact .inr ⟨rfl, h2⟩
theorem dn_mskip {dn : List Int} {k k' : Nat} (hk : k < (t.mv.getD s []).length) (h : ((t.mv.getD s []).getD k mv0).d ≠ 1) : ∀ s' x q, Dn g t dn s k k' s' x q ↔ Dn g t dn s (k + 1) k' s' x q := fun s' x q => by unfold Dn; rw [stm_skip hk h]
theorem dn_madd {dn : List Int} {k k' q0 : Nat} (hk : k < (t.mv.getD s []).length) (h : ((t.mv.getD s []).getD k mv0).d = 1) (hq : ((t.mv.getD s []).getD k mv0).n = (q0 : Int)) : ∀ s' x q, (Dn g t dn s k k' s' x q ∨ (s' = s ∧ x = (k : Int) ∧ q = q0)) ↔ Dn g t dn s (k + 1) k' s' x q := fun s' x q => by
  unfold Dn
  rw [stm_add hk h hq]
  constructor
  · rintro ((h1 | ⟨h1, h2 | h2⟩) | ⟨h1, h2⟩)
    · exact .inl h1
    · exact .inr ⟨h1, .inl (.inl h2)⟩
    · exact .inr ⟨h1, .inr h2⟩
    · exact .inr ⟨h1, .inl (.inr h2)⟩
  · rintro (h1 | ⟨h1, (h2 | h2) | h2⟩)
    · exact .inl (.inl h1)
    · exact .inl (.inr ⟨h1, .inl h2⟩)
    · exact .inr ⟨h1, h2⟩
    · exact .inl (.inr ⟨h1, .inr h2⟩)
theorem dn_gskip {dn : List Int} {k k' : Nat} (hk : k' < (t.go.getD s []).length) (h : (t.go.getD s []).getD k' 0 < 0) : ∀ s' x q, Dn g t dn s k k' s' x q ↔ Dn g t dn s k (k' + 1) s' x q := fun s' x q => by unfold Dn; rw [stg_skip hk h]
theorem dn_gadd {dn : List Int} {k k' q0 : Nat} (hk : k' < (t.go.getD s []).length) (hq : (t.go.getD s []).getD k' 0 = (q0 : Int)) : ∀ s' x q, (Dn g t dn s k k' s' x q ∨ (s' = s ∧ x = (g.kinds.length : Int) + k' ∧ q = q0)) ↔ Dn g t dn s k (k' + 1) s' x q := fun s' x q => by
  unfold Dn
  rw [stg_add hk hq]
  constructor
  · rintro ((h1 | ⟨h1, h2 | h2⟩) | ⟨h1, h2⟩)
    · exact .inl h1
    · exact .inr ⟨h1, .inl h2⟩
    · exact .inr ⟨h1, .inr (.inl h2)⟩
    · exact .inr ⟨h1, .inr (.inr h2)⟩
  · rintro (h1 | ⟨h1, h2 | h2 | h2⟩)
    · exact .inl (.inl h1)
    · exact .inl (.inr ⟨h1, .inl h2⟩)
    · exact .inl (.inr ⟨h1, .inr h2⟩)
    · exact .inr ⟨h1, h2⟩
/-- What is found at the end. -/
structure Edges (g : Pl) (t : Tb) (xss : List (List Mv)) (met : List Bool) : Prop where
  lm : met.length = t.mv.length
  lx : xss.length = t.mv.length
  hm : ∀ q, q < t.mv.length → (met.getD q false = true ↔ Rch g t q)
  hx : ∀ q, q < t.mv.length → ∀ y : Mv, y ∈ xss.getD q [] ↔ ∃ s : Nat, y.d = s ∧ Edg g t s y.n q
  hc : ∀ q, (xss.getD q []).length ≤ 1099511627776
theorem EdI.fin (h : EdI g t (D0 g t todo) todo met xss c) (hf : Fit2 g t) (hc : c ≤ 1099511627776) : Edges g t xss met := by
  have hcl : ∀ q, Rch g t q → (q : Int) ∈ todo := fun q hq => marks_rch (M := fun q => (q : Int) ∈ todo) h.h0 (fun s x q hs hst => (h.hD s x q ⟨hs, hst⟩).2.2) hq
  have hin : ∀ q : Nat, (q : Int) ∈ todo → Rch g t q := fun q hq => by
    obtain ⟨q', e, _, hr⟩ := h.hr _ hq
    have : q' = q := by omega
    exact this ▸ hr
  exact ⟨h.lm, h.lx, fun q hq => (h.hm q hq).trans ⟨hin q, hcl q⟩, fun q hq y => (h.hx q hq y).trans ⟨fun ⟨s, h1, h2⟩ => ⟨s, h1, hin s h2.1, h2.2⟩, fun ⟨s, h1, h2⟩ => ⟨s, h1, hcl s h2.1, h2.2⟩⟩, fun q => Nat.le_trans (h.hc q) hc⟩
end
end Go.Proofs.YtkpehkadammppaaFx

/-! Sets of states as maps; steps back. -/
namespace Go.Proofs.YtkpehkadammppaaFx
open Go Go.RowKit
noncomputable def setF (S : Int → Prop) (x : Int) : Option Bool := if dec (S x) then some true else none
theorem setF_t {S : Int → Prop} {x : Int} (h : S x) : setF S x = some true := by rw [setF, dec_t h]; rfl
theorem setF_f {S : Int → Prop} {x : Int} (h : ¬ S x) : setF S x = none := by rw [setF, dec_f h]; rfl
theorem setF_some {S : Int → Prop} {x : Int} {v : Bool} (h : setF S x = some v) : S x := by
  rcases Classical.em (S x) with h1 | h1
  · exact h1
  · rw [setF_f h1] at h; cases h
theorem setF_is {S : Int → Prop} {x : Int} : (setF S x).isSome = true ↔ S x := by
  rcases Classical.em (S x) with h1 | h1
  · rw [setF_t h1]; exact ⟨fun _ => h1, fun _ => rfl⟩
  · rw [setF_f h1]; exact ⟨fun h => by simp at h, fun h => absurd h h1⟩
theorem setF_cong {S S' : Int → Prop} (h : ∀ x, S x ↔ S' x) : setF S = setF S' := by
  rw [show S = S' from funext fun x => propext (h x)]
theorem setF_nil : (fun _ => none) = setF fun _ => False := by
  funext x
  rw [setF_f (fun h => h)]
theorem setF_add (S : Int → Prop) (x : Int) : (fun y => if y = x then some true else setF S y) = setF fun y => S y ∨ y = x := by
  funext y
  by_cases h : y = x
  · rw [if_pos h, setF_t (.inr h)]
  · rw [if_neg h]
    rcases Classical.em (S y) with h2 | h2
    · rw [setF_t h2, setF_t (.inl h2)]
    · rw [setF_f h2, setF_f (fun hh => hh.elim h2 h)]
theorem setF_get (S : Int → Prop) (x : Int) : ((setF S x).map Value.bool).getD (.bool false) = .bool (dec (S x)) := by
  rcases Classical.em (S x) with h | h
  · rw [setF_t h, dec_t h]; rfl
  · rw [setF_f h, dec_f h]; rfl
section
variable {g : Pl} {t : Tb} {s j : Nat} {p : Pr} {xss : List (List Mv)} {met : List Bool}
def BkI (g : Pl) (t : Tb) (s j : Nat) (x : Int) : Prop := ∃ q : Nat, x = q ∧ Bk g t s j q
/-- What lies a step ahead of what is not left. -/
def AhI (g : Pl) (t : Tb) (s j : Nat) (left : Int → Bool) (y : Int) : Prop := ∃ (sf q : Nat) (x : Int), y = sf ∧ Bk g t s j q ∧ left q = false ∧ Edg g t sf x q
theorem bk_lt (hf : Fit2 g t) (hs : s < t.mv.length) : ∀ {j q : Nat}, Bk g t s j q → q < t.mv.length
  | 0, q, h => by
    have : q = s := h
    omega
  | j + 1, q, ⟨x, q', h, _⟩ => hf.rch h.1
theorem bki_rng (hf : Fit2 g t) (hs : s < t.mv.length) (x : Int) (h : (setF (BkI g t s j) x).isSome = true) : 0 ≤ x ∧ x < t.mv.length := by
  obtain ⟨q, rfl, hq⟩ := setF_is.1 h
  have := bk_lt hf hs hq
  omega
theorem bki_one : (fun y => if y = (s : Int) then some true else none) = setF (BkI g t s 0) := by
  have h := setF_add (fun _ => False) (s : Int)
  rw [← setF_nil] at h
  rw [h]
  exact setF_cong fun x => ⟨fun hh => hh.elim (fun h => h.elim) fun e => ⟨s, e, rfl⟩, fun ⟨q, e, hq⟩ => .inr (by have : q = s := hq; omega)⟩
/-- A state's steps gone through, so far. -/
def AhJ (g : Pl) (t : Tb) (s j : Nat) (left : Int → Bool) (row : List Mv) (m : Nat) (y : Int) : Prop := AhI g t s j left y ∨ ∃ i, i < m ∧ y = (row.getD i mv0).d
theorem ahj_zero {left : Int → Bool} {row : List Mv} : setF (AhI g t s j left) = setF (AhJ g t s j left row 0) := setF_cong fun y => ⟨.inl, fun h => h.elim id fun ⟨i, h, _⟩ => absurd h (by omega)⟩
theorem ahj_succ {left : Int → Bool} {row : List Mv} {m : Nat} : (fun y => if y = (row.getD m mv0).d then some true else setF (AhJ g t s j left row m) y) = setF (AhJ g t s j left row (m + 1)) := by
  rw [setF_add]
  refine setF_cong fun y => ⟨fun h => ?_, fun h => ?_⟩
  · rcases h with (h | ⟨i, h1, h2⟩) | h
    · exact .inl h
    · exact .inr ⟨i, by omega, h2⟩
    · exact .inr ⟨m, by omega, h⟩
  · rcases h with h | ⟨i, h1, h2⟩
    · exact .inl (.inl h)
    · rcases (by omega : i < m ∨ i = m) with e | rfl
      · exact .inl (.inr ⟨i, e, h2⟩)
      · exact .inr h2
theorem edge_at (hE : Edges g t xss met) {q i : Nat} (hq : q < t.mv.length) (hi : i < (xss.getD q []).length) : ∃ sf : Nat, ((xss.getD q []).getD i mv0).d = sf ∧ Edg g t sf ((xss.getD q []).getD i mv0).n q := (hE.hx q hq _).1 (getD_mem hi)
theorem edge_mem (hE : Edges g t xss met) {q sf : Nat} {x : Int} (hq : q < t.mv.length) (h : Edg g t sf x q) : ∃ i, i < (xss.getD q []).length ∧ (xss.getD q []).getD i mv0 = ⟨(sf : Int), x⟩ := by
  have := (hE.hx q hq ⟨(sf : Int), x⟩).2 ⟨sf, rfl, h⟩
  obtain ⟨i, hi, he⟩ := List.mem_iff_getElem.1 this
  exact ⟨i, hi, by rw [List.getD_eq_getElem?_getD, List.getElem?_eq_getElem hi]; exact he⟩
theorem ahj_rng {left : Int → Bool} {q m : Nat} (hf : Fit2 g t) (hE : Edges g t xss met) (hq : q < t.mv.length) (hm : m ≤ (xss.getD q []).length) (x : Int) (h : (setF (AhJ g t s j left (xss.getD q []) m) x).isSome = true) : 0 ≤ x ∧ x < t.mv.length := by
  rcases setF_is.1 h with ⟨sf, q', y, rfl, _, _, he⟩ | ⟨i, hi, rfl⟩
  · have := hf.rch he.1
    omega
  · obtain ⟨sf, h1, h2⟩ := edge_at hE hq (i := i) (by omega)
    have := hf.rch h2.1
    omega
/-- What has been seen of the states that are not left. -/
def Seen (g : Pl) (t : Tb) (s j : Nat) (right : List Int) (left : Int → Bool) : Prop := ∀ q : Nat, Bk g t s j q → left q = false → q ≠ 0 ∧ ∀ sf x, Edg g t sf x q → x = right.getD (right.length - 1 - j) 0
theorem seen_all {right : List Int} {left : Int → Bool} (h : Seen g t s j right left) (hd : ∀ q : Nat, q < t.mv.length → left q = false) (hf : Fit2 g t) (hs : s < t.mv.length) : BkOk g t s right j :=
  ⟨fun h0 => (h 0 h0 (hd 0 (bk_lt hf hs h0))).1 rfl, fun q x q' he hb => (h q' hb (hd q' (bk_lt hf hs hb))).2 q x he⟩
theorem ah_all {left : Int → Bool} (hd : ∀ q : Nat, q < t.mv.length → left q = false) (hf : Fit2 g t) (hs : s < t.mv.length) : setF (AhI g t s j left) = setF (BkI g t s (j + 1)) := setF_cong fun y =>
  ⟨fun ⟨sf, q, x, h1, h2, h3, h4⟩ => ⟨sf, h1, x, q, h4, h2⟩, fun ⟨sf, h1, x, q, h4, h2⟩ => ⟨sf, q, x, h1, h2, hd q (bk_lt hf hs h2), h4⟩⟩
theorem ah_next {left left2 : Int → Bool} {q : Nat} (hE : Edges g t xss met) (hq : q < t.mv.length) (hb : Bk g t s j q) (hl : ∀ y, (Lit.int .i64 y).wf = true → (left2 y = true ↔ left y = true ∧ y ≠ (q : Int))) (hf : Fit2 g t) (hs : s < t.mv.length) :
    setF (AhJ g t s j left (xss.getD q []) (xss.getD q []).length) = setF (AhI g t s j left2) := setF_cong fun y => by
  have hn := hf.2.1
  constructor
  · rintro (⟨sf, q', x, h1, h2, h3, h4⟩ | ⟨i, hi, rfl⟩)
    · have := bk_lt hf hs h2
      refine ⟨sf, q', x, h1, h2, ?_, h4⟩
      cases h5 : left2 q'
      · rfl
      · rw [((hl q' (wf64 (by unfold I64; omega))).1 h5).1] at h3
        cases h3
    · obtain ⟨sf, h1, h2⟩ := edge_at hE hq hi
      refine ⟨sf, q, _, h1, hb, ?_, h2⟩
      cases h5 : left2 q
      · rfl
      · exact absurd rfl ((hl q (wf64 (by unfold I64; omega))).1 h5).2
  · rintro ⟨sf, q', x, h1, h2, h3, h4⟩
    have := bk_lt hf hs h2
    by_cases e : q' = q
    · subst e
      obtain ⟨i, hi, he⟩ := edge_mem hE hq h4
      exact .inr ⟨i, hi, by rw [he]; exact h1⟩
    · refine .inl ⟨sf, q', x, h1, h2, ?_, h4⟩
      cases h5 : left q'
      · rfl
      · rw [(hl q' (wf64 (by unfold I64; omega))).2 ⟨h5, by omega⟩] at h3
        cases h3
theorem seen_next {right : List Int} {left left2 : Int → Bool} {q : Nat} (h : Seen g t s j right left) (hE : Edges g t xss met) (hq : q < t.mv.length) (hl : ∀ y, (Lit.int .i64 y).wf = true → (left2 y = true ↔ left y = true ∧ y ≠ (q : Int))) (hf : Fit2 g t) (hs : s < t.mv.length) (h0 : q ≠ 0)
    (ha : ∀ i, i < (xss.getD q []).length → ((xss.getD q []).getD i mv0).n = right.getD (right.length - 1 - j) 0) : Seen g t s j right left2 := fun q' hb hq' => by
  have hn := hf.2.1
  have := bk_lt hf hs hb
  by_cases e : q' = q
  · subst e
    refine ⟨h0, fun sf x he => ?_⟩
    obtain ⟨i, hi, h1⟩ := edge_mem hE hq he
    have := ha i hi
    rw [h1] at this
    exact this
  · refine h q' hb ?_
    cases h5 : left q'
    · rfl
    · rw [(hl q' (wf64 (by unfold I64; omega))).2 ⟨h5, by omega⟩] at hq'
      cases hq'
end
end Go.Proofs.YtkpehkadammppaaFx
