/- Rows of the call's own: read, stored into, made; calls without a body. Equality of structs of numbers. Tables as plain data. Rows of rows of the call's own. A region that draws its order: first what yields the same wherever S holds, then the rest in the text's order. A row's default, in plain Lean. The default of a row, as the document reckons it. A table with its defaults. Two numbers of an own row change places. sort.SliceStable at one element or none. Two places of the order are exchanged. Which of two rows is the longer. What exchanges of places do. -/
import Derived.Test.YtkpehkadammppaaK01
import Derived.Laws.MakeOwn
import Derived.Laws.StructEq
import Derived.OrdersHeld
import Derived.Lib.ReflectliteSwap
import Derived.Laws.Externs
import Derived.Test.YtkpehkadammppaaProg
import Derived.Lib.ReflectliteSlice
set_option linter.unusedVariables false
set_option linter.unusedSimpArgs false
/-! Rows of the call's own: read, stored into, made; calls without a body. -/
namespace Go.Proofs.YtkpehkadammppaaFx
open Go Go.RowKit
section
variable {α : Type} {f : Fk α} {w w' W0 : World} {A : Option Addr} {xs : List α} {L L' : List Ch} {e n c : Nat} {v : Value}
theorem Holds.rrd (H : Holds W0 L w) (U : Upd L (Row f e (.slice A n c) xs) (Row f e (.slice A n c) xs) L) : Rd f.kn w A xs := (rd_of_own (H.raw U)).2.2
theorem Holds.rlen (H : Holds W0 L w) (U : Upd L (Row f e (.slice A n c) xs) (Row f e (.slice A n c) xs) L) : n = xs.length := (rd_of_own (H.raw U)).1
theorem Holds.rcap (H : Holds W0 L w) (U : Upd L (Row f e (.slice A n c) xs) (Row f e (.slice A n c) xs) L) : xs.length ≤ c := (rd_of_own (H.raw U)).2.1
theorem Holds.rmax (H : Holds W0 L w) (U : Upd L (Row f e v xs) (Row f e v xs) L) : xs.length ≤ maxLen := own_max (H.raw U)
/-- A row's value is a slice. -/
theorem Holds.rform (H : Holds W0 L w) (U : Upd L (Row f e v xs) (Row f e v xs) L) : ∃ A c, v = .slice A xs.length c := by
  obtain ⟨A, c, h, _, _⟩ := H.row U
  exact ⟨A, c, h⟩
theorem put_splice : ∀ (cs : List Value) (off : Nat) (vs : List Value), off + vs.length ≤ cs.length → Put cs off vs (cs.take off ++ vs ++ cs.drop (off + vs.length))
  | cs, 0, [], _ => by simpa using Put.nil cs
  | [], 0, v :: vs, h => by simp at h
  | c :: cs, 0, v :: vs, h => by
    have := put_splice cs 0 vs (by simp at h ⊢; omega)
    simp only [List.take_zero, List.nil_append, Nat.zero_add] at this ⊢
    rw [List.length_cons, List.drop_succ_cons]
    exact .here v this
  | [], off + 1, vs, h => by simp at h
  | c :: cs, off + 1, vs, h => by
    have := put_splice cs off vs (by simp at h; omega)
    rw [List.take_succ_cons, show off + 1 + vs.length = (off + vs.length) + 1 by omega, List.drop_succ_cons]
    exact .there this
theorem flat_splice (f : Fk α) : ∀ (xs : List α) (j : Nat) (x : α), j < xs.length → (xs.flatMap f.enc).take (j * f.sz) ++ f.enc x ++ (xs.flatMap f.enc).drop (j * f.sz + f.sz) = (xs.set j x).flatMap f.enc
  | [], j, x, h => by simp at h
  | y :: r, 0, x, _ => by
    have h := f.len y
    rw [List.flatMap_cons, List.set_cons_zero, List.flatMap_cons, Nat.zero_mul, List.take_zero, List.nil_append, Nat.zero_add, ← h, List.drop_left]
  | y :: r, j + 1, x, hj => by
    have h := f.len y
    have e1 : (j + 1) * f.sz = (f.enc y).length + j * f.sz := by rw [h, Nat.add_mul, Nat.one_mul, Nat.add_comm]
    rw [List.flatMap_cons, List.set_cons_succ, List.flatMap_cons, e1, List.take_append, List.take_of_length_le (by omega), show (f.enc y).length + j * f.sz - (f.enc y).length = j * f.sz by omega, Nat.add_assoc, List.drop_append, List.drop_of_length_le (by omega), List.nil_append,
      show (f.enc y).length + (j * f.sz + f.sz) - (f.enc y).length = j * f.sz + f.sz by omega, List.append_assoc, List.append_assoc, ← List.append_assoc (List.take _ _), flat_splice f r j x (by simpa using hj)]
end
theorem take_splice (cs vs : List Value) (a b N : Nat) (hb : vs.length = b) (h : a + b ≤ N) (hN : N ≤ cs.length) : (cs.take a ++ vs ++ cs.drop (a + b)).take N = (cs.take N).take a ++ vs ++ (cs.take N).drop (a + b) := by
  subst hb
  have h1 : (cs.take a).length = a := by rw [List.length_take]; omega
  rw [List.append_assoc, List.append_assoc, List.take_append, h1, List.take_append, List.take_of_length_le (by omega), List.take_of_length_le (l := vs) (by omega), List.take_take, Nat.min_eq_left (by omega), List.drop_take]
  congr 3
  omega
section
variable {α : Type} {f : Fk α} {P : Program} {n : Nat} {Q : Post} {l : Fr} {w W0 : World} {L L' : List Ch} {ops : Array Oper} {rest : List Oper} {d : Nat} {x y : Operand} {ty t e : TypeId} {pos : String} {af : Array Edge} {v : Value} {A : Option Addr} {m c : Nat} {i : Int} {xs : List α} {x' : α}
/-- A store of a whole element into a row of the call's own. -/
theorem wl_storeR (H : Holds W0 L w) (U : Upd L (Row f e (.slice A m c) xs) (Row f e (.slice A m c) (xs.set i.toNat x')) L') (hsz : ∀ W, (sizeOf t).run P W = .ok f.sz W) (hx : ev l x = some (.pointer (some ((adr A).add (i.toNat * f.sz))))) (hy : ev l y = some v) (hc : v.cells = (f.enc x').toArray) (h0 : 0 ≤ i) (h1 : i < xs.length)
    (h : ∀ w', Holds W0 L' w' → wl P n ops rest Q l w') : wl P n ops (⟨none, .store t x y, ty, pos, af, none⟩ :: rest) Q l w := by
  obtain ⟨S, hS, ⟨hSv, hown⟩, hstep⟩ := H.upd U
  have hlt : i.toNat < xs.length := by omega
  have hm : m = xs.length := (rd_of_own hown).1
  subst hm
  rcases hown.2 with ⟨hnil, hz⟩ | ⟨g, cap, cur, hv, _, hh, hnc, hcm, hsz2, hcur⟩
  · omega
  · injection hv with hA _ hcap
    subst hA hcap
    have hfl := flat_len f xs
    have hcl : cur.toList.length = c * f.sz := by simpa using hsz2
    have hle : xs.length * f.sz ≤ cur.toList.length := by rw [hcl]; exact Nat.mul_le_mul_right _ hnc
    have hoff : i.toNat * f.sz + f.sz ≤ xs.length * f.sz := by rw [← Nat.succ_mul]; exact Nat.mul_le_mul_right _ hlt
    obtain ⟨w', hr, g1, g2, g3, g4, g5, g6⟩ := run_storeCells_blk (P := P) (b := g) (t := e) (off := i.toNat * f.sz) (f.enc x') 0 w cur.toList _ (by simpa using hh) (put_splice cur.toList _ _ (by rw [f.len]; omega)) (f.one x')
    refine wl_s (w' := w') rfl rfl (fun a ha => ?_) (h w' (hstep w' S g4 g5 g6 (by omega) (fun k hk hn => g2 k (fun e => hn (e ▸ hSv g (by simp [Value.ownBlock])))) (fun k hk => .inl hk) ⟨hSv, ?_⟩))
    · simp [execOp, ha.eval hx, ha.eval hy, Instr.storeAt, Instr.sureAddr, storeVar, hsz, hc, f.len, adr, Addr.add_lit, hr]
    · refine ⟨by rw [flat_len, List.length_set], .inr ⟨g, c, _, by rw [List.length_set], Nat.zero_le _, g1, by rw [List.length_set]; exact hnc, hcm, ?_, ?_⟩⟩
      · simp only [List.size_toArray, List.length_append, List.length_take, List.length_drop, f.len, hcl]
        rw [hcl] at hle
        omega
      · rw [List.length_set, ← flat_splice f xs i.toNat x' hlt, ← hcur]
        exact take_splice cur.toList (f.enc x') (i.toNat * f.sz) _ _ rfl (by rw [f.len]; exact hoff) hle |>.trans (by rw [f.len])
theorem made_flat (f : Fk α) (z : Value) (z' : α) (hz : z.cells = (f.enc z').toArray) (hs0 : 0 < f.sz) (N : Nat) : (madeCells z.cells (N * f.sz)).toList = (List.replicate N z').flatMap f.enc := by
  rw [hz]
  have hsz : (f.enc z').toArray.size = f.sz := by simp [f.len]
  apply List.ext_getElem?
  intro j
  by_cases hj : j < N * f.sz
  · have hq : j / f.sz < N := (Nat.div_lt_iff_lt_mul hs0).2 hj
    have hr : j % f.sz < f.sz := Nat.mod_lt _ hs0
    have e1 := flat_get f (List.replicate N z') (j / f.sz) z' (by rw [List.getElem?_replicate, if_pos hq]) (j % f.sz) _ (List.getElem?_eq_getElem (by rw [f.len]; exact hr))
    rw [show j / f.sz * f.sz + j % f.sz = j from Nat.div_add_mod' j f.sz] at e1
    rw [e1]
    simp only [madeCells, Array.toList_map, Array.toList_range, List.getElem?_map, List.getElem?_range hj, Option.map_some, hsz]
    congr 1
    simp [f.len, hr]
  · rw [List.getElem?_eq_none (by simp [madeCells]; omega), List.getElem?_eq_none (by rw [flat_len]; simp; omega)]
/-- make([]T, n). -/
theorem wl_make {z : Value} {z' : α} {bytes : Nat} {q : Int} (H : Holds W0 L w) (hn : Nat.ble (d + 1) n = true) (ht : P.underlying t = some (.slice e)) (hi : (P.info? e).map (fun i => (i.zero, i.size, i.bytes)) = some (some z, f.sz, bytes)) (hz : z.cells = (f.enc z').toArray) (hs0 : 0 < f.sz)
    (hx : ev l x = some (.int .i64 q)) (hy : ev l y = some (.int .i64 q)) (h0 : 0 ≤ q) (hb : q * bytes ≤ 140737488355328) (hb0 : 0 < bytes)
    (h : ∀ A w', Holds W0 (Row f e (.slice A q.toNat q.toNat) (List.replicate q.toNat z') :: L) w' → w.heap.size ≤ w'.heap.size → wl P n ops rest Q ((d, .slice A q.toNat q.toNat) :: l) w') : wl P n ops (⟨some d, .makeSlice t x y, ty, pos, af, none⟩ :: rest) Q l w := by
  obtain ⟨i0, hi1, hi2⟩ := Option.map_eq_some_iff.1 hi
  simp only [Prod.mk.injEq] at hi2
  obtain ⟨g1, g2, g3⟩ := hi2
  obtain ⟨N, rfl⟩ := Int.eq_ofNat_of_zero_le h0
  have hN : N ≤ 140737488355328 := by
    have h2 : (N : Int) * 1 ≤ (N : Int) * bytes := Int.mul_le_mul_of_nonneg_left (by omega) (by omega)
    omega
  have hrun : (Instr.makeSlice t (.int .i64 (N : Int)) (.int .i64 (N : Int))).run P w = .ok (.slice (some ⟨w.heap.size, 0, none⟩) N N) (w.alloc (.cells (madeCells z.cells (N * f.sz)) e)) := by
    have h1 := run_make (P := P) w t e i0 z ht hi1 g1 .i64 .i64 (N : Int) N (by omega) (Int.le_refl _) (by rw [g3, Int.mul_comm]; exact Int.le_trans hb (by decide)) (by omega)
    rw [g2, Int.toNat_natCast] at h1
    exact h1
  refine wl_v rfl rfl hn (w' := w.alloc (.cells (madeCells z.cells (N * f.sz)) e)) (v := .slice (some ⟨w.heap.size, 0, none⟩) N N) (fun a ha => by simp [execOp, ha.eval hx, ha.eval hy, hrun]) ?_
  have := h (some ⟨w.heap.size, 0, none⟩) (w.alloc (.cells (madeCells z.cells (N * f.sz)) e)) ?_ (by simp)
  · simpa using this
  · refine H.push (below_alloc' w _) ⟨fun k hk => ?_, ?_⟩
    · have : w.heap.size = k := by simpa [Value.ownBlock] using hk
      subst this
      simp
    · have hl := made_flat f z z' hz hs0 N
      have := World.ownsRow_lit (base := 0) (e := e) (size := f.sz) w (madeCells z.cells (N * f.sz)) N (Nat.zero_le _) (by simp only [maxLen]; omega) (by simp [size_madeCells])
      rw [hl] at this
      simpa using this
theorem raw_row {α : Type} {f : Fk α} {e : TypeId} {v : Value} {xs ys : List α} {N : Nat} {cs : List Value} (hN : N = (xs ++ ys).length) (hcs : cs = (xs ++ ys).flatMap f.enc) : Raw e f.sz v N cs = Row f e v (xs ++ ys) := by subst hN hcs; rfl
/-- append(s, y). -/
theorem wl_app1 {z : Value} {bytes b : Nat} {cs : List Value} {y' : α} {sx : Operand} {L' : Value → List Ch} (H : Holds W0 L w) (U : ∀ v', Upd L (Row f e v xs) (Row f e v' (xs ++ [y'])) (L' v')) (UB : Upd L (Blk b e cs) (Blk b e cs) L) (hn : Nat.ble (d + 1) n = true)
    (ht : P.underlying t = some (.slice e)) (hi : (P.info? e).map (fun i => (i.zero, i.size, i.bytes)) = some (some z, f.sz, bytes)) (hz : z.cells.size = f.sz) (hs0 : 0 < f.sz)
    (hs : ev l sx = some v) (hx : ev l x = some (.slice (some ⟨b, 0, none⟩) 1 1)) (hcs : cs = f.enc y') (hb : (xs.length + 1) * bytes ≤ 140737488355328) (hb0 : 0 < bytes)
    (h : ∀ A c w', Holds W0 (L' (.slice A (xs ++ [y']).length c)) w' → w.heap.size ≤ w'.heap.size → wl P n ops rest Q ((d, .slice A (xs ++ [y']).length c) :: l) w') : wl P n ops (⟨some d, .call { callee := .builtin .append, args := #[sx, x], argTypes := #[t, t] }, ty, pos, af, none⟩ :: rest) Q l w := by
  subst hcs
  have hl : (f.enc y').length = 1 * f.sz := by rw [f.len, Nat.one_mul]
  have e1 : xs.flatMap f.enc ++ f.enc y' = (xs ++ [y']).flatMap f.enc := by simp
  refine wl_append (L' := L') (cs := xs.flatMap f.enc) (news := f.enc y') H (fun v' => ?_) hn ht hi hz hs0 hs hx (fun _ => rfl) hl (fun j u hu => ?_) (f.one y') hb hb0 (fun v' w' H' hsz => ?_)
  · rw [raw_row (xs := xs) (ys := [y']) (by simp) e1]
    exact U v'
  · exact H.ats UB j u hu
  · have hown : w'.ownsRow 0 e f.sz v' (xs ++ [y']).length ((xs ++ [y']).flatMap f.enc) := by
      obtain ⟨_, _, ⟨_, ho⟩, _⟩ := H'.upd (U v').swap
      exact ho
    obtain ⟨A, c, rfl, _, _, _⟩ := own_slice hown
    exact h A c w' H' hsz
/-- append(s, ys...), ys read. -/
theorem wl_appR {z : Value} {bytes c' : Nat} {ys : List α} {sx : Operand} {L' : Value → List Ch} (H : Holds W0 L w) (U : ∀ v', Upd L (Row f e v xs) (Row f e v' (xs ++ ys)) (L' v')) (hn : Nat.ble (d + 1) n = true)
    (ht : P.underlying t = some (.slice e)) (hi : (P.info? e).map (fun i => (i.zero, i.size, i.bytes)) = some (some z, f.sz, bytes)) (hz : z.cells.size = f.sz) (hs0 : 0 < f.sz)
    (hs : ev l sx = some v) (hx : ev l x = some (.slice A ys.length c')) (hr : Rd f.kn w A ys) (hb : (xs.length + ys.length) * bytes ≤ 140737488355328) (hb0 : 0 < bytes)
    (h : ∀ A c w', Holds W0 (L' (.slice A (xs ++ ys).length c)) w' → w.heap.size ≤ w'.heap.size → wl P n ops rest Q ((d, .slice A (xs ++ ys).length c) :: l) w') : wl P n ops (⟨some d, .call { callee := .builtin .append, args := #[sx, x], argTypes := #[t, t] }, ty, pos, af, none⟩ :: rest) Q l w := by
  have e1 : xs.flatMap f.enc ++ ys.flatMap f.enc = (xs ++ ys).flatMap f.enc := by simp
  refine wl_append (L' := L') (cs := xs.flatMap f.enc) (news := ys.flatMap f.enc) H (fun v' => ?_) hn ht hi hz hs0 hs hx hr.ad (flat_len f ys) (fun j u hu => ?_) (fun u hu => ?_) hb hb0 (fun v' w' H' hsz => ?_)
  · rw [raw_row (xs := xs) (ys := ys) (by simp) e1]
    exact U v'
  · have hj : j < ys.length * f.sz := by rw [← flat_len]; exact (List.getElem?_eq_some_iff.1 hu).1
    have hq : j / f.sz < ys.length := (Nat.div_lt_iff_lt_mul hs0).2 hj
    obtain ⟨cs, rfl, hc⟩ := hr.el (j / f.sz) _ (List.getElem?_eq_getElem hq)
    have hm : j % f.sz < (f.enc ys[j / f.sz]).length := by rw [f.len]; exact Nat.mod_lt _ hs0
    have e2 := flat_get f ys (j / f.sz) _ (List.getElem?_eq_getElem hq) (j % f.sz) _ (List.getElem?_eq_getElem hm)
    have e3 := hc (j % f.sz) _ (List.getElem?_eq_getElem hm)
    have e4 : j / f.sz * f.sz + j % f.sz = j := Nat.div_add_mod' j f.sz
    rw [e4, hu] at e2
    rw [← e2] at e3
    have e5 : j / f.sz * f.kn.sz + j % f.sz = j := e4
    rw [e5] at e3
    exact e3
  · obtain ⟨y', _, hy'⟩ := List.mem_flatMap.1 hu
    exact f.one y' u hy'
  · have hown : w'.ownsRow 0 e f.sz v' (xs ++ ys).length ((xs ++ ys).flatMap f.enc) := by
      obtain ⟨_, _, ⟨_, ho⟩, _⟩ := H'.upd (U v').swap
      exact ho
    obtain ⟨A, c, rfl, _, _, _⟩ := own_slice hown
    exact h A c w' H' hsz
/-- A call of a function without a body. -/
theorem wl_ext {fo : FuncId} {xs : List Operand} {vs : List Value} {ats : Array TypeId} {w' : World} (hx : evs l xs = some vs) (hn : Nat.ble (d + 1) n = true) (hrun : (callFunc fo vs.toArray).run P w = .ok (.value v) w')
    (h : wl P n ops rest Q ((d, v) :: l) w') : wl P n ops (⟨some d, .call { callee := .value (.func fo), args := xs.toArray, argTypes := ats }, ty, pos, af, none⟩ :: rest) Q l w := fun a ha => by
  refine wpList_plain rfl fun K hK => ?_
  unfold Oper.wp
  have hargs : xs.toArray.map a.eval = vs.toArray := by rw [List.map_toArray, ha.evals hx]
  have hr : (execOp a.eval ⟨some d, .call { callee := .value (.func fo), args := xs.toArray, argTypes := ats }, ty, pos, af, none⟩).run P w = .ok (.value v) w' := by
    simp only [execOp, resolve, Act.eval, Deferred.ofValue, Sem.run_bind, Sem.run_pure, Result.andThen_ok, invoke, hargs, Array.empty_append, Array.append_empty]
    exact hrun
  rw [hr, Oper.upon_value]
  exact hK _ _ (h _ (ha.put hn v))
theorem wl_extv {fo : FuncId} {fx : Operand} {first captured : List Value} {xs : List Operand} {vs : List Value} {ats : Array TypeId} {w' : World} (hf : ev l fx = some (.func (.func fo) first.toArray captured.toArray)) (hx : evs l xs = some vs) (hn : Nat.ble (d + 1) n = true) (hrun : (callFunc fo (first ++ vs ++ captured).toArray).run P w = .ok (.value v) w')
    (h : wl P n ops rest Q ((d, v) :: l) w') : wl P n ops (⟨some d, .call { callee := .value fx, args := xs.toArray, argTypes := ats }, ty, pos, af, none⟩ :: rest) Q l w := fun a ha => by
  refine wpList_plain rfl fun K hK => ?_
  unfold Oper.wp
  have hargs : xs.toArray.map a.eval = vs.toArray := by rw [List.map_toArray, ha.evals hx]
  have hr : (execOp a.eval ⟨some d, .call { callee := .value fx, args := xs.toArray, argTypes := ats }, ty, pos, af, none⟩).run P w = .ok (.value v) w' := by
    simp only [execOp, resolve, ha.eval hf, Deferred.ofValue, Sem.run_bind, Sem.run_pure, Result.andThen_ok, invoke, hargs, List.append_toArray]
    exact hrun
  rw [hr, Oper.upon_value]
  exact hK _ _ (h _ (ha.put hn v))
theorem v_iface {p : Value} {i : TypeId} (hc : (P.underlying t).map (fun k => match k with | .interface _ => false | _ => true) = some true) (hx : ev l x = some p) : Vs P n l ⟨some d, .makeInterface t x, ty, pos, af, none⟩ w (.iface t p) := fun a ha => by
  obtain ⟨k, hk, hk2⟩ := Option.map_eq_some_iff.1 hc
  have hu : (underlying t).run P w = .ok k w := run_underlying hk w
  cases k <;> simp_all [execOp, ha.eval hx, Instr.makeInterface, Result.andThen]
end
end Go.Proofs.YtkpehkadammppaaFx

/-! Equality of structs of numbers. -/
namespace Go.Proofs.YtkpehkadammppaaFx
open Go Go.RowKit
/-- Some statement's truth. -/
noncomputable def dec (p : Prop) : Bool := @decide p (Classical.propDecidable p)
theorem dec_t {p : Prop} (h : p) : dec p = true := by simp [dec, h]
theorem dec_f {p : Prop} (h : ¬ p) : dec p = false := by simp [dec, h]
theorem dec_iff {p q : Prop} (h : p ↔ q) : dec p = dec q := by rw [propext h]
theorem dec_eq {p : Prop} {b : Bool} (h : b = true ↔ p) : b = dec p := by
  cases b
  · exact (dec_f fun hp => by simpa using h.2 hp).symm
  · exact (dec_t (h.1 rfl)).symm
theorem of_dec {p : Prop} (h : dec p = true) : p := by
  rcases Classical.em p with hp | hp
  · exact hp
  · rw [dec_f hp] at h; exact absurd h (by simp)
theorem of_ndec {p : Prop} (h : dec p = false) : ¬ p := fun hp => by rw [dec_t hp] at h; exact absurd h (by simp)
section
variable {P : Program} {e : TypeId} {k' k : IntKind}
theorem eqf_step {d off : Nat} {f : Field} {fs : List Field} {xs ys : Array Value} {a b : Int} (he : P.underlying e = some (.int k')) (hf : (f.name != "_", f.type, f.offset) = (true, e, off)) (hx : xs[off]? = some (.int k a)) (hy : ys[off]? = some (.int k b)) (W : World) :
    (Op.eqFields (d + 1) xs ys (f :: fs)).run P W = if a = b then (Op.eqFields (d + 1) xs ys fs).run P W else .ok false W := by
  simp only [Prod.mk.injEq] at hf
  obtain ⟨h1, h2, h3⟩ := hf
  have hn : f.name ≠ "_" := by simpa using h1
  have hp : ∀ (cs : Array Value) (v : Value), cs[off]? = some v → (part f.type cs f.offset).run P W = .ok v W := fun cs v hv => by
    rw [h2, h3]
    have ha : (isAgg e).run P W = .ok false W := by
      simp only [isAgg, Sem.run_bind, run_underlying he, Result.andThen_ok]
      rfl
    simp [part, ha, hv, Result.andThen]
  rw [Op.eqFields, if_pos hn]
  simp only [Sem.run_bind, hp _ _ hx, hp _ _ hy, Result.andThen_ok]
  rw [h2, run_equalIn_int W d e k k' a b he]
  simp only [Result.andThen_ok]
  by_cases hab : a = b
  · simp [hab]
  · simp [hab]
def EqlMv (P : Program) (t : TypeId) : Prop := P.eqGuardType P.depth t = false ∧ ∀ (W : World) (x y : Mv), (Op.equalIn 10000 t (.agg (fMv.enc x).toArray) (.agg (fMv.enc y).toArray)).run P W = .ok (decide (x = y)) W
theorem eql_mv {t : TypeId} {f0 f1 : Field} (ht' : P.underlying t = some (.struct #[f0, f1])) (hp : P.stoodInHeld t = false) (hg : P.eqGuardType P.depth t = false) (he : P.underlying e = some (.int k')) (h0 : (f0.name != "_", f0.type, f0.offset) = (true, e, 0)) (h1 : (f1.name != "_", f1.type, f1.offset) = (true, e, 1)) : EqlMv P t := by
  have hf0 : P.fieldsOf t = #[f0, f1] := by simp only [Program.fieldsOf, ht']
  have ht : P.underlying t = some (.struct (P.fieldsOf t)) := by rw [hf0]; exact ht'
  have hf : (P.fieldsOf t).toList = [f0, f1] := by rw [hf0]
  refine ⟨hg, fun W x y => ?_⟩
  rw [run_equalIn_struct W 9999 t _ _ ht hp, hf, eqf_step (d := 9998) (off := 0) (k := .i64) (a := x.d) (b := y.d) he h0 rfl rfl, eqf_step (d := 9998) (off := 1) (k := .i64) (a := x.n) (b := y.n) he h1 rfl rfl]
  obtain ⟨a, b⟩ := x
  obtain ⟨c, d⟩ := y
  by_cases hac : a = c <;> by_cases hbd : b = d <;> simp [hac, hbd, Op.eqFields]
variable {n : Nat} {l : Fr} {w : World} {d : Nat} {x y : Operand} {ty t t2 : TypeId} {pos : String} {af : Array Edge} {a b : Mv}
theorem v_eqlm (hE : EqlMv P t) (hx : ev l x = some (.agg (fMv.enc a).toArray)) (hy : ev l y = some (.agg (fMv.enc b).toArray)) : Vs P n l ⟨some d, .binOp .eql t x y t2, ty, pos, af, none⟩ w (.bool (decide (a = b))) := fun c hc => by
  simp [execOp, hc.eval hx, hc.eval hy, run_eqGuard_agg w _ t x y _ _ hE.1, run_eql_struct, hE.2, Result.andThen]
theorem v_neqm (hE : EqlMv P t) (hx : ev l x = some (.agg (fMv.enc a).toArray)) (hy : ev l y = some (.agg (fMv.enc b).toArray)) : Vs P n l ⟨some d, .binOp .neq t x y t2, ty, pos, af, none⟩ w (.bool (!decide (a = b))) := fun c hc => by
  simp [execOp, hc.eval hx, hc.eval hy, run_eqGuard_agg w _ t x y _ _ hE.1, run_neq_struct, hE.2, Result.andThen]
end
end Go.Proofs.YtkpehkadammppaaFx

/-! Tables as plain data. -/
namespace Go.Proofs.YtkpehkadammppaaFx
open Go Go.RowKit
theorem eq_step {α : Type} {xs ys : List α} {i : Nat} (z : α) (h : xs.take i = ys.take i) (hl : (xs.length : Int) = ys.length) (hi : i < xs.length) (he : xs.getD i z = ys.getD i z) : xs.take (i + 1) = ys.take (i + 1) := by
  rw [take_succ' z hi, take_succ' z (by omega), h, he]
theorem eq_done {α : Type} {xs ys : List α} {i : Nat} (h : xs.take i = ys.take i) (hl : (xs.length : Int) = ys.length) (hi : ¬ ((i : Int) < xs.length)) : xs = ys := by
  rwa [take_all hi, take_all (by omega)] at h
theorem ne_at {α : Type} {xs ys : List α} {i : Nat} {z : α} (h : xs.getD i z ≠ ys.getD i z) : xs ≠ ys := fun e => h (by rw [e])
theorem ne_len {α : Type} {xs ys : List α} (h : ¬ ((xs.length : Int) = ys.length)) : xs ≠ ys := fun e => h (by rw [e])
section
variable {α : Type} {f : Fk α} {d : Kn α} {w : World} {A : Option Addr} {i : Nat}
theorem Rd.atN {xs : List α} (h : Rd f.kn w A xs) (z : α) (h1 : i < xs.length) {k : Nat} {u : Value} (hu : (f.enc (xs.getD i z))[k]? = some u) : w.cell? (((adr A).add ((i : Int).toNat * f.sz)).add k) = some u := h.at z (i := (i : Int)) (by omega) (by omega) hu
theorem Rd.at1N {k : IntKind} {xs : List Int} (h : Rd (kInt k) w A xs) (h1 : i < xs.length) : w.cell? ((adr A).add ((i : Int).toNat * 1)) = some (.int k (xs.getD i 0)) := h.at1 (i := (i : Int)) (by omega) (by omega)
theorem Rd.at1sN {xs : List ByteArray} (h : Rd kStr w A xs) (h1 : i < xs.length) : w.cell? ((adr A).add ((i : Int).toNat * 1)) = some (.string (xs.getD i ByteArray.empty)) := h.at1s (i := (i : Int)) (by omega) (by omega)
theorem Rd.at1bN {xs : List Bool} (h : Rd kBool w A xs) (h1 : i < xs.length) : w.cell? ((adr A).add ((i : Int).toNat * 1)) = some (.bool (xs.getD i false)) := h.at1b (i := (i : Int)) (by omega) (by omega)
theorem Rd.atSlN {xs : List (List α)} (h : Rd d.sl w A xs) (h1 : i < xs.length) : ∃ B c, w.cell? ((adr A).add ((i : Int).toNat * 1)) = some (.slice B (xs.getD i []).length c) ∧ (xs.getD i []).length ≤ c ∧ Rd d w B (xs.getD i []) := h.atSl (i := (i : Int)) (by omega) (by omega)
end
/-- A table. -/
structure Tb where
  mv : List (List Mv)
  go : List (List Int)
  deriving DecidableEq
structure Tb.ok (t : Tb) : Prop where
  m : t.mv.length ≤ 1099511627776
  g : t.go.length ≤ 1099511627776
  mr : ∀ r ∈ t.mv, r.length ≤ 1099511627776 ∧ ∀ m ∈ r, I64 m.d ∧ I64 m.n
  gr : ∀ r ∈ t.go, r.length ≤ 1099511627776 ∧ ∀ x ∈ r, I64 x
abbrev Tb.val (t : Tb) (A B : Option Addr) (ca cb : Nat) : Value := .agg #[.slice A t.mv.length ca, .slice B t.go.length cb]
structure Tb.rd (t : Tb) (w : World) (A B : Option Addr) : Prop where
  m : Rd fMv.kn.sl w A t.mv
  g : Rd (kInt .i64).sl w B t.go
theorem Tb.rd.below {t : Tb} {w w' : World} {A B : Option Addr} (h : t.rd w A B) (hb : Below w.heap.size w w') : t.rd w' A B := ⟨h.m.below hb, h.g.below hb⟩
theorem Tb.ok.ml {t : Tb} (h : t.ok) {i : Nat} (hi : i < t.mv.length) : (t.mv.getD i []).length ≤ 1099511627776 := (h.mr _ (getD_mem hi)).1
theorem Tb.ok.gl {t : Tb} (h : t.ok) {i : Nat} (hi : i < t.go.length) : (t.go.getD i []).length ≤ 1099511627776 := (h.gr _ (getD_mem hi)).1
theorem Tb.ok.m' {t : Tb} (h : t.ok) : t.mv.length ≤ 1099511627776 := h.m
theorem Tb.ok.g' {t : Tb} (h : t.ok) : t.go.length ≤ 1099511627776 := h.g
/-- All states have a row of each sort, as long as the first state's. -/
def Rect (t : Tb) : Prop := 0 < t.mv.length ∧ 0 < (t.mv.getD 0 []).length ∧ t.go.length = t.mv.length ∧ ∀ s, s < t.mv.length → (t.mv.getD s []).length = (t.mv.getD 0 []).length ∧ (t.go.getD s []).length = (t.go.getD 0 []).length
theorem upto_succ {p : Nat → Prop} {i : Nat} (h : ∀ s, s < i → p s) (hi : p i) : ∀ s, s < i + 1 → p s := fun s hs => by
  rcases Nat.lt_or_eq_of_le (Nat.le_of_lt_succ hs) with h1 | rfl
  · exact h s h1
  · exact hi
theorem upto_zero {p : Nat → Prop} : ∀ s, s < 0 → p s := fun s hs => absurd hs (Nat.not_lt_zero s)
/-- A move a table of n states and pr productions may have. -/
def mvOk (m : Mv) (n pr : Int) : Prop := (m.d = 1 ∧ 0 ≤ m.n ∧ m.n < n) ∨ (m.d = 2 ∧ 0 ≤ m.n ∧ m.n < pr) ∨ ((m.d = 0 ∨ m.d = 3) ∧ m.n = 0)
def goOk (x n : Int) : Prop := -1 ≤ x ∧ x < n
/-- A state's rows. -/
def rowOk (t : Tb) (k r p : Int) (s : Nat) : Prop := ((t.mv.getD s []).length : Int) = k ∧ ((t.go.getD s []).length : Int) = r ∧ (∀ j, j < (t.mv.getD s []).length → mvOk ((t.mv.getD s []).getD j mv0) t.mv.length p) ∧ ∀ j, j < (t.go.getD s []).length → goOk ((t.go.getD s []).getD j 0) t.mv.length
def TGood (t : Tb) (k r p : Int) : Prop := 1 ≤ t.mv.length ∧ t.mv.length ≤ 4096 ∧ t.go.length = t.mv.length ∧ ∀ s, s < t.mv.length → rowOk t k r p s
/-- What the checks of a table answer. -/
noncomputable def checkF (t : Tb) (k r p : Int) : Int := if dec (k < 2 ∨ r < 0 ∨ p < 0) then 1 else if dec (TGood t k r p) then 0 else 170
theorem checkF_arg {t : Tb} {k r p : Int} (h : k < 2 ∨ r < 0 ∨ p < 0) : checkF t k r p = 1 := by rw [checkF, dec_t h]; rfl
theorem checkF_bad {t : Tb} {k r p : Int} (h : ¬ (k < 2 ∨ r < 0 ∨ p < 0)) (h2 : ¬ TGood t k r p) : checkF t k r p = 170 := by rw [checkF, dec_f h, dec_f h2]; rfl
theorem checkF_ok {t : Tb} {k r p : Int} (h : ¬ (k < 2 ∨ r < 0 ∨ p < 0)) (h2 : TGood t k r p) : checkF t k r p = 0 := by rw [checkF, dec_f h, dec_t h2]; rfl
end Go.Proofs.YtkpehkadammppaaFx

/-! Rows of rows of the call's own. -/
namespace Go.Proofs.YtkpehkadammppaaFx
open Go Go.RowKit
/-- L' is picked out of L. -/
inductive Pm : List Ch → List Ch → Prop
  | nil (L : List Ch) : Pm L []
  | cons {L L1 L' : List Ch} {A : Ch} (D : Del L A L1) (h : Pm L1 L') : Pm L (A :: L')
theorem HL.pm {L L' : List Ch} (h : Pm L L') : ∀ {w : World} {S : Nat → Prop}, HL L w S → HL L' w S := by
  induction h with
  | nil L => exact fun _ => trivial
  | cons D h ih =>
    intro w S hl
    obtain ⟨S1, S2, h1, h2, h3, h4, h5⟩ := HL.del D hl
    exact ⟨S1, S2, h1, h2, h3, h4, ih h5⟩
theorem Holds.pm {W0 w : World} {L L' : List Ch} (H : Holds W0 L w) (h : Pm L L') : Holds W0 L' w := ⟨H.old, HL.pm h H.hl⟩
theorem HL.unapp : ∀ {L1 L2 : List Ch} {w : World} {S : Nat → Prop}, HL (L1 ++ L2) w S → ∃ S1 S2 : Nat → Prop, (∀ k, S1 k → S k) ∧ (∀ k, S2 k → S k) ∧ (∀ k, S1 k → ¬ S2 k) ∧ HL L1 w S1 ∧ HL L2 w S2
  | [], L2, w, S, h => ⟨fun _ => False, S, fun _ hk => hk.elim, fun _ hk => hk, fun _ hk => hk.elim, trivial, h⟩
  | A :: L1, L2, w, S, ⟨S1, S2, h1, h2, h3, h4, h5⟩ => by
    obtain ⟨T1, T2, g1, g2, g3, g4, g5⟩ := HL.unapp h5
    exact ⟨fun k => S1 k ∨ T1 k, T2, fun k hk => hk.elim (h1 k) (fun h => h2 k (g1 k h)), fun k hk => h2 k (g2 k hk), fun k hk hk2 => hk.elim (fun h => h3 k h (g2 k hk2)) (fun h => g3 k h hk2), ⟨S1, T1, fun k hk => .inl hk, fun k hk => .inr hk, fun k hk hk2 => h3 k hk (g1 k hk2), h4, g4⟩, g5⟩
/-- The inner rows. -/
def zips {α : Type} (f : Fk α) (e : TypeId) : List Value → List (List α) → List Ch
  | v :: vs, xs :: xss => Row f e v xs :: zips f e vs xss
  | _, _ => []
theorem zips_app {α : Type} (f : Fk α) (e : TypeId) : ∀ (vs vs' : List Value) (xss xss' : List (List α)), vs.length = xss.length → zips f e (vs ++ vs') (xss ++ xss') = zips f e vs xss ++ zips f e vs' xss'
  | [], _, [], _, _ => rfl
  | [], _, _ :: _, _, h => by simp at h
  | _ :: _, _, [], _, h => by simp at h
  | v :: vs, vs', xs :: xss, xss', h => by
    show _ :: zips f e (vs ++ vs') (xss ++ xss') = _ :: (zips f e vs xss ++ zips f e vs' xss')
    rw [zips_app f e vs vs' xss xss' (by simpa using h)]
/-- Rows of rows: e the rows' type, e2 their elements'. -/
def RR {α : Type} (f : Fk α) (e e2 : TypeId) (v : Value) (xss : List (List α)) : Ch where
  p := fun w S => ∃ vs : List Value, vs.length = xss.length ∧ HL (Raw e 1 v xss.length vs :: zips f e2 vs xss) w S
  st := fun h ⟨vs, hl, hp⟩ => ⟨vs, hl, HL.st h hp⟩
section
variable {α : Type} {f : Fk α} {w w' W0 : World} {A : Option Addr} {xs : List α} {xss : List (List α)} {L L1 L2 L' : List Ch} {e e2 n c : Nat} {u v : Value}
theorem Holds.opened {C : Ch} {Ls : List Ch} (H : Holds W0 (C :: L) w) (h : ∀ S, C.p w S → HL Ls w S) : Holds W0 (Ls ++ L) w := by
  obtain ⟨ho, S1, S2, h1, h2, h3, h4, h5⟩ := H
  exact ⟨ho, HL.app h1 h2 h3 (h S1 h4) h5⟩
theorem Holds.closed {C : Ch} {Ls : List Ch} (H : Holds W0 (Ls ++ L) w) (h : ∀ S, HL Ls w S → C.p w S) : Holds W0 (C :: L) w := by
  obtain ⟨ho, hl⟩ := H
  obtain ⟨S1, S2, h1, h2, h3, h4, h5⟩ := HL.unapp hl
  exact ⟨ho, S1, S2, h1, h2, h3, h S1 h4, h5⟩
/-- A row of rows, opened. -/
theorem Holds.rrOpen (H : Holds W0 (RR f e e2 v xss :: L) w) : ∃ vs : List Value, vs.length = xss.length ∧ Holds W0 ((Raw e 1 v xss.length vs :: zips f e2 vs xss) ++ L) w := by
  obtain ⟨ho, S1, S2, h1, h2, h3, ⟨vs, hv, h4⟩, h5⟩ := H
  exact ⟨vs, hv, ho, HL.app h1 h2 h3 h4 h5⟩
theorem Holds.rrClose {vs : List Value} (hv : vs.length = xss.length) (H : Holds W0 ((Raw e 1 v xss.length vs :: zips f e2 vs xss) ++ L) w) : Holds W0 (RR f e e2 v xss :: L) w := H.closed fun S h => ⟨vs, hv, h⟩
theorem Holds.rrNil (H : Holds W0 L w) (f : Fk α) (e e2 : Nat) : Holds W0 (RR f e e2 (.slice none 0 0) [] :: L) w := Holds.rrClose (vs := []) rfl (H.nilrow e 1)
theorem zips_rd {w : World} (f : Fk α) (e : TypeId) : ∀ (vs : List Value) (xss : List (List α)) (S : Nat → Prop), vs.length = xss.length → HL (zips f e vs xss) w S → ∀ (j : Nat) (xs : List α), xss[j]? = some xs → ∃ (A : Option Addr) (c : Nat), vs[j]? = some (Value.slice A xs.length c) ∧ xs.length ≤ c ∧ xs.length ≤ maxLen ∧ Rd f.kn w A xs
  | [], [], _, _, _, j, xs, hx => by simp at hx
  | [], _ :: _, _, h, _, _, _, _ => by simp at h
  | _ :: _, [], _, h, _, _, _, _ => by simp at h
  | v :: vs, ys :: xss, S, h, hl, j, xs, hx => by
    obtain ⟨S1, S2, _, _, _, h4, h5⟩ := hl
    cases j with
    | zero =>
      simp only [List.getElem?_cons_zero, Option.some.injEq] at hx
      subst hx
      obtain ⟨A, c, rfl, hn, hA, hc⟩ := own_slice h4.2
      exact ⟨A, c, rfl, hn, own_max h4.2, (rd_of_own h4.2).2.2⟩
    | succ j => exact zips_rd f e vs xss S2 (by simpa using h) h5 j xs (by simpa using hx)
/-- As it is read. -/
theorem Holds.rr (H : Holds W0 L w) (U : Upd L (RR f e e2 v xss) (RR f e e2 v xss) L) : ∃ A c, v = .slice A xss.length c ∧ xss.length ≤ c ∧ xss.length ≤ maxLen ∧ (∀ xs ∈ xss, xs.length ≤ maxLen) ∧ Rd f.kn.sl w A xss := by
  obtain ⟨S, hS, vs, hv, S1, S2, h1, h2, h3, h4, h5⟩ := H.get U
  obtain ⟨A, c, rfl, hn, hA, hc⟩ := own_slice h4.2
  have hz := zips_rd f e2 vs xss S2 hv h5
  refine ⟨A, c, rfl, hn, own_max h4.2, fun xs hx => ?_, hA, fun j xs hx => ?_⟩
  · obtain ⟨j, hj, rfl⟩ := List.mem_iff_getElem.1 hx
    obtain ⟨_, _, _, _, h, _⟩ := hz j _ (List.getElem?_eq_getElem hj)
    exact h
  · obtain ⟨B, c', h6, h7, _, h8⟩ := hz j xs hx
    refine ⟨_, ⟨B, c', rfl, h7, h8⟩, fun i u hu => ?_⟩
    cases i with
    | zero =>
      simp only [List.getElem?_cons_zero, Option.some.injEq] at hu
      subst hu
      have := hc j _ h6
      show w.cell? ((adr A).add (j * 1 + 0)) = _
      rwa [Nat.mul_one, Nat.add_zero]
    | succ i => simp at hu
end
section
variable {α : Type} {f : Fk α} {P : Program} {n : Nat} {Q : Post} {l : Fr} {w W0 : World} {L L1 L2 : List Ch} {ops : Array Oper} {rest : List Oper} {d : Nat} {x sx : Operand} {ty t e e2 : TypeId} {pos : String} {af : Array Edge} {v u : Value} {xs : List α} {xss : List (List α)}
/-- append(rows, row). -/
theorem wl_appRR {z : Value} {bytes b : Nat} (H : Holds W0 L w) (D1 : Del L (Row f e2 u xs) L1) (D2 : Del L1 (RR f e e2 v xss) L2) (hcell : w.cell? ⟨b, 0, none⟩ = some u) (hn : Nat.ble (d + 1) n = true)
    (ht : P.underlying t = some (.slice e)) (hi : (P.info? e).map (fun i => (i.zero, i.size, i.bytes)) = some (some z, 1, bytes)) (hz : z.cells.size = 1)
    (hs : ev l sx = some v) (hx : ev l x = some (.slice (some ⟨b, 0, none⟩) 1 1)) (hb : (xss.length + 1) * bytes ≤ 140737488355328) (hb0 : 0 < bytes)
    (h : ∀ A c w', Holds W0 (RR f e e2 (.slice A (xss ++ [xs]).length c) (xss ++ [xs]) :: L2) w' → w.heap.size ≤ w'.heap.size → wl P n ops rest Q ((d, .slice A (xss ++ [xs]).length c) :: l) w') : wl P n ops (⟨some d, .call { callee := .builtin .append, args := #[sx, x], argTypes := #[t, t] }, ty, pos, af, none⟩ :: rest) Q l w := by
  have H1 : Holds W0 (RR f e e2 v xss :: Row f e2 u xs :: L2) w := (H.turn D1).turn (.there _ D2)
  obtain ⟨vs, hv, H2⟩ := H1.rrOpen
  have hu1 : u.oneCell' = true := by
    obtain ⟨_, _, ho⟩ := H1.get (A := Row f e2 u xs) (.there _ (.here _ _ _))
    obtain ⟨A, c, rfl, _⟩ := own_slice ho.2
    rfl
  refine wl_append (L' := fun v' => (Raw e 1 v' (xss.length + 1) (vs ++ [u]) :: zips f e2 vs xss) ++ Row f e2 u xs :: L2) (cs := vs) (news := [u]) H2 (fun v' => .here _ _ _) hn ht hi hz (by omega) hs hx (fun _ => rfl) rfl (fun j u' hu => ?_) (fun u' hu => by rw [List.mem_singleton.1 hu]; exact hu1) hb hb0 (fun v' w' H' hsz => ?_)
  · cases j with
    | zero =>
      simp only [List.getElem?_cons_zero, Option.some.injEq] at hu
      subst hu
      exact hcell
    | succ j => simp at hu
  · have h3 : Holds W0 (RR f e e2 v' (xss ++ [xs]) :: L2) w' := by
      refine Holds.rrClose (vs := vs ++ [u]) (by simp [hv]) ?_
      rw [zips_app f e2 vs [u] xss [xs] hv, show (xss ++ [xs]).length = xss.length + 1 by simp]
      have : (Raw e 1 v' (xss.length + 1) (vs ++ [u]) :: (zips f e2 vs xss ++ zips f e2 [u] [xs])) ++ L2 = (Raw e 1 v' (xss.length + 1) (vs ++ [u]) :: zips f e2 vs xss) ++ Row f e2 u xs :: L2 := by
        simp [zips]
      rw [this]
      exact H'
    obtain ⟨A, c, rfl, _⟩ := h3.rr (.here _ _ _)
    exact h A c w' h3 hsz
end
end Go.Proofs.YtkpehkadammppaaFx

/-! A region that draws its order: first what yields the same wherever S holds, then the rest in the text's order. -/
namespace Go.Proofs.YtkpehkadammppaaFx
open Go Go.RowKit
section
variable {P : Program} {ops : Array Oper} {Q : Exit → Act → World → Prop} {S : World → Prop} {m m2 : Nat}
def allB (ops : Array Oper) (m j : Nat) : Bool := (List.range m).all fun i => match ops[j]? with
  | some o => o.after.any fun e => Region.binds .any e && e.on == i
  | none => false
/-- Whatever order comes, S holds behind each operation that does not wait for all the heads. -/
def wpK (P : Program) (ops : Array Oper) (Q : Exit → Act → World → Prop) (S : World → Prop) (m : Nat) : Nat → Array Bool → Act → World → Prop
  | 0, listed, a, w => Region.ready .any ops listed = [] ∧ Q .normal a w
  | g + 1, listed, a, w => (Region.ready .any ops listed = [] → Q .normal a w) ∧
    ∀ i ∈ Region.ready .any ops listed, wpOp P ops Q i (fun a' w' => (allB ops m i = true ∨ S w') ∧ wpK P ops Q S m g (listed.setIfInBounds i true) a' w') a w
theorem wpK_any : ∀ (g : Nat) (listed : Array Bool) (a : Act) (w : World), wpK P ops Q S m g listed a w → wpAny P .any ops Q g listed a w
  | 0, _, _, _, h => h
  | g + 1, _, _, _, h => ⟨h.1, fun i hi => wpOp_mono (fun a' w' h' => wpK_any g _ a' w' h'.2) (h.2 i hi)⟩
theorem wpK_first {i : Nat} {oi : Oper} {v : Value} (him : i < m) (hi : ops[i]? = some oi) (hsel : ∀ (j : Nat) (o : Oper) cs b, ops[j]? = some o → o.op ≠ .select cs b) (hQ : ∀ c a w, Q (.panic c) (a.put oi.dst v) w → Q (.panic c) a w) (hS0 : allB ops m i = true ∨ True) :
    ∀ (g : Nat) (listed : Array Bool) (a : Act) (w : World), (∀ j oj, ops[j]? = some oj → j ≠ i → listed.getD j true = false → (∀ e ∈ oj.after, Region.binds .any e = true → e.on ≠ i) → oi.apart ops oj = true) →
      i ∈ Region.ready .any ops listed → YieldsIf P ops S oi v a → S w → wpK P ops Q S m g (listed.setIfInBounds i true) (a.put oi.dst v) w → wpK P ops Q S m (g + 1) listed a w := by
  intro g
  induction g with
  | zero =>
    intro listed a w _ hr hy hS H
    refine ⟨fun h => (by rw [h] at hr; cases hr), fun j hj => ?_⟩
    rcases Nat.decEq j i with hji | hji
    · have := ready_mono hj hji
      rw [H.1] at this
      cases this
    · subst hji
      exact hy.wpOp hi hS ⟨.inr hS, H⟩
  | succ g ih =>
    intro listed a w hfree hr hy hS H
    refine ⟨fun h => (by rw [h] at hr; cases hr), fun j hj => ?_⟩
    rcases Nat.decEq j i with hji | hji
    · obtain ⟨hjun, oj, hoj, hall⟩ := mem_ready.1 hj
      have hnot : ∀ e ∈ oj.after, Region.binds .any e = true → e.on ≠ i := fun e he hb heq => by
        have h1 := hall e he hb
        have h0 := (mem_ready.1 hr).1
        rw [heq] at h1
        rcases Nat.lt_or_ge i listed.size with h' | h'
        · simp [h'] at h0 h1; rw [h0] at h1; cases h1
        · simp [Array.getElem?_eq_none h'] at h1
      have hna : ¬ allB ops m j = true := fun hb => by
        unfold allB at hb
        have := List.all_eq_true.1 hb i (List.mem_range.2 him)
        rw [hoj] at this
        obtain ⟨e, he, hbe⟩ := Array.any_eq_true'.1 this
        rw [Bool.and_eq_true] at hbe
        exact hnot e he hbe.1 (by simpa using hbe.2)
      have h2 := wpOp_putIf hoj (hfree j oj hoj hji hjun hnot) (fun cs b => hsel i oi cs b hi) (fun cs b => hsel j oj cs b hoj) hQ hy (H.2 j (ready_mono hj hji))
      refine wpOp_mono (fun a' w' h3 => ?_) h2
      have hS' : S w' := h3.2.1.resolve_left hna
      refine ⟨.inr hS', ih _ a' w' (fun k ok hk hki hun hno => hfree k ok hk hki ?_ hno) (ready_mono hr (Ne.symm hji)) h3.1 hS' ?_⟩
      · rcases Nat.decEq j k with hjk | hjk
        · rw [getD_set_ne true hjk] at hun; exact hun
        · subst hjk; exact hjun
      · rw [Array.setIfInBounds_comm _ _ hji]
        exact h3.2.2
    · subst hji
      exact hy.wpOp hi hS ⟨.inr hS, H⟩
/-- May the region be walked so: heads before m, from m2 on all wait for all the heads. -/
def heldFrom (ops : Array Oper) (m m2 : Nat) : Nat → Nat → Array Bool → Bool
  | 0, _, listed => (Region.ready .any ops listed).isEmpty
  | g + 1, k, listed => (if Nat.blt k m then (Region.ready .any ops listed).contains k && Region.free .any ops listed k else (Region.ready .any ops listed == [k]) && (Nat.blt k m2 || allB ops m k)) && heldFrom ops m m2 g (k + 1) (listed.setIfInBounds k true)
def heldB (ops : Array Oper) (m m2 : Nat) : Bool := Region.noSelect ops && heldFrom ops m m2 ops.size 0 (Array.replicate ops.size false)
/-- The walk. -/
def wpH (P : Program) (ops : Array Oper) (Q : Exit → Act → World → Prop) (S : World → Prop) (m m2 : Nat) : Nat → List Oper → Act → World → Prop
  | _, [], a, w => Q .normal a w
  | k, o :: rest, a, w => if Nat.blt k m = true then S w ∧ (∃ v, YieldsIf P ops S o v a ∧ wpH P ops Q S m m2 (k + 1) rest (a.put o.dst v) w)
    else if Region.wanted o (yielded ops a.tmps) then o.wp P a w (fun a' w' => (Nat.blt k m2 = true → S w') ∧ wpH P ops Q S m m2 (k + 1) rest a' w') Q ∨ (o.asks P a w ∧ LetsOut Q)
      else (Nat.blt k m2 = true → S w) ∧ wpH P ops Q S m m2 (k + 1) rest (a.put o.dst undef) w
theorem wpK_of (hs : Region.noSelect ops = true) (hQ : ∀ c a w, Q (.panic c) a w → False) : ∀ (l : List Oper) (k : Nat) (listed : Array Bool) (a : Act) (w : World), (∀ j, l[j]? = ops[k + j]?) →
    heldFrom ops m m2 l.length k listed = true → wpH P ops Q S m m2 k l a w → wpK P ops Q S m l.length listed a w
  | [], _, _, _, _, _, hB, h => ⟨by simpa [heldFrom] using hB, h⟩
  | o :: l, k, listed, a, w, hl, hB, h => by
    have h0 : ops[k]? = some o := by simpa using (hl 0).symm
    have hl' : ∀ j, l[j]? = ops[k + 1 + j]? := fun j => by have := hl (j + 1); simpa [Nat.add_assoc, Nat.add_comm 1 j] using this
    simp only [List.length_cons, heldFrom, Bool.and_eq_true] at hB
    obtain ⟨hB1, hB2⟩ := hB
    unfold wpH at h
    by_cases hk : Nat.blt k m = true
    · rw [if_pos hk] at h hB1
      obtain ⟨hS, v, hy, hK⟩ := h
      rw [Bool.and_eq_true] at hB1
      exact wpK_first (by simpa using hk) h0 (Region.noSelect_spec hs) (fun c a w hp => (hQ c _ w hp).elim) (.inr trivial) l.length listed a w (Region.free_spec h0 hB1.2) (by simpa using hB1.1) hy hS (wpK_of hs hQ l (k + 1) _ _ w hl' hB2 hK)
    · rw [if_neg hk] at h hB1
      rw [Bool.and_eq_true] at hB1
      have hr : Region.ready .any ops listed = [k] := by simpa using hB1.1
      have hall : allB ops m k = true ∨ Nat.blt k m2 = true := by
        have := hB1.2
        rw [Bool.or_eq_true] at this
        exact this.symm
      refine ⟨fun h1 => (by rw [hr] at h1; cases h1), fun j hj => ?_⟩
      rw [hr, List.mem_singleton] at hj
      subst hj
      unfold wpOp
      simp only [h0]
      by_cases hw : Region.wanted o (yielded ops a.tmps) = true
      · rw [if_pos hw] at h ⊢
        exact h.imp (Oper.wp_mono fun a' w' hh => ⟨hall.imp id (fun h2 => hh.1 h2), wpK_of hs hQ l (j + 1) _ _ w' hl' hB2 hh.2⟩) id
      · rw [if_neg hw] at h ⊢
        exact ⟨hall.imp id (fun h2 => h.1 h2), wpK_of hs hQ l (j + 1) _ _ w hl' hB2 h.2⟩
end
section
variable {P : Program} {n : Nat} {Q : Post} {l : Fr} {w : World} {ops : Array Oper} {rest : List Oper} {o : Oper} {S : World → Prop} {m m2 k d : Nat} {v : Value}
/-- The heads. -/
def wh (P : Program) (n : Nat) (ops : Array Oper) (S : World → Prop) (Q : Post) (m m2 k : Nat) (rest : List Oper) (l : Fr) (w : World) : Prop := ∀ a, Ag n l a → wpH P ops (up n Q) S m m2 k rest a w
theorem wc_held {id : Nat} {ol : List Oper} (m m2 : Nat) (S : World → Prop) (hm : P.follows .mixedOrders = true) (hB : heldB ol.toArray m m2 = true) (hQ : ∀ c l w, Q (.panic c) l w → False) (h : wh P n ol.toArray S Q m m2 0 ol l w.drew) : wc P n (.region id ol.toArray true) Q l w := fun a ha => by
  simp only [heldB, Bool.and_eq_true] at hB
  refine wp_region_any hm (wpK_any _ _ _ _ (wpK_of (S := S) (m := m) (m2 := m2) hB.1 (fun c a w ⟨l, _, hq⟩ => hQ c l w hq) ol.toArray.toList 0 _ a _ (by simp) (by simpa using hB.2) ?_))
  simpa using h a ha
theorem tn {K : Fr → World → Prop} (h : K l w) : thenQ K Q .normal l w := h
theorem wh_nil (h : Q .normal l w) : wh P n ops S Q m m2 k [] l w := fun a ha => ⟨l, ha, h⟩
theorem wh_v (hk : Nat.blt k m = true) (hS : S w) (hd : o.dst = some d) (hg : o.guard = none) (hn : Nat.ble (d + 1) n = true) (hv : ∀ W, S W → Vs P n l o W v) (h : wh P n ops S Q m m2 (k + 1) rest ((d, v) :: l) w) : wh P n ops S Q m m2 k (o :: rest) l w := fun a ha => by
  unfold wpH
  rw [if_pos hk]
  refine ⟨hS, v, .inl ⟨by simp [Region.wanted, hg], fun W hW => hv W hW a ha⟩, ?_⟩
  rw [hd]
  exact h _ (ha.put hn v)
theorem wp_swapQ {a : Act} {w : World} {K : Act → World → Prop} {Q1 Q2 : Exit → Act → World → Prop} (hp : ∀ c a w, Q1 (.panic c) a w → Q2 (.panic c) a w) (ho : LetsOut Q1 → LetsOut Q2) (h : o.wp P a w K Q1) : o.wp P a w K Q2 := by
  unfold Oper.wp at *
  generalize (execOp a.eval o).run P w = r at *
  cases r with
  | ok nx w' =>
    cases nx <;> simp only [Oper.upon] at h ⊢ <;>
      first
        | exact h
        | exact Calls.mono h (fun e w'' he => by cases e <;> first | exact he | exact hp _ _ _ he | exact ho he)
        | exact Rows.mono h (fun _ _ he => he)
  | halt x w' => cases x <;> simp only [Oper.upon] at h ⊢ <;> first | exact h | exact hp _ _ _ h
theorem wh_t (hk : Nat.blt k m = false) (h : wl P n ops [o] (thenQ (fun l' w' => (Nat.blt k m2 = true → S w') ∧ wh P n ops S Q m m2 (k + 1) rest l' w') Q) l w) : wh P n ops S Q m m2 k (o :: rest) l w := fun a ha => by
  have h1 := h a ha
  unfold wpH
  rw [if_neg (by rw [hk]; simp)]
  unfold wpList at h1
  by_cases hw : Region.wanted o (yielded ops a.tmps) = true
  · rw [if_pos hw] at h1 ⊢
    have hlo : LetsOut (up n (thenQ (fun l' w' => (Nat.blt k m2 = true → S w') ∧ wh P n ops S Q m m2 (k + 1) rest l' w') Q)) → LetsOut (up n Q) := fun ⟨a, w, hh⟩ => ⟨a, w, hh⟩
    refine h1.imp (fun h => ?_) (fun h => ⟨h.1, hlo h.2⟩)
    refine wp_swapQ (fun c a w hp => hp) hlo (Oper.wp_mono (fun a' w' hh => ?_) h)
    obtain ⟨l', hl, hS, hr⟩ := hh
    exact ⟨hS, hr a' hl⟩
  · rw [if_neg hw] at h1 ⊢
    obtain ⟨l', hl, hS, hr⟩ := h1
    exact ⟨hS, hr _ hl⟩
theorem oldN {cs cs' : List Value} {w : World} {b off k : Nat} (h : ∀ j v, cs[j]? = some v → w.cell? ⟨b, j, none⟩ = some v) (hcut : (cs.drop off).take k = cs') : ∀ j v, cs'[j]? = some v → w.cell? ((⟨b, off, none⟩ : Addr).add j) = some v := fun j v hv => by
  rw [Addr.add_lit]
  exact h _ v (cut_eq hcut j v hv)
theorem v_fn {fn : Fn} {d : Nat} {ty : TypeId} {pos : String} {af : Array Edge} {fs cs : List Operand} {vf vc : List Value} (hf : evs l fs = some vf) (hc : evs l cs = some vc) : Vs P n l ⟨some d, .makeFunc fn fs.toArray cs.toArray, ty, pos, af, none⟩ w (.func fn vf.toArray vc.toArray) :=
  v_func (fun a ha => by rw [List.map_toArray, ha.evals hf]) (fun a ha => by rw [List.map_toArray, ha.evals hc])
end
end Go.Proofs.YtkpehkadammppaaFx

/-! A row's default, in plain Lean. -/
namespace Go.Proofs.YtkpehkadammppaaFx
/-- How many of a row's moves reduce by x. -/
def cnt (row : List Mv) (x : Int) : Nat := (row.filter fun m => decide (m.d = 2) && decide (m.n = x)).length
/-- r is the row's default. -/
def IsUsual (row : List Mv) (r : Mv) : Prop := (r = mv0 ∧ ∀ x, cnt row x = 0) ∨ ∃ x, r = ⟨2, x⟩ ∧ 0 < cnt row x ∧ ∀ y, cnt row y ≤ cnt row x ∧ (cnt row y = cnt row x → x ≤ y)
theorem IsUsual.unique {row : List Mv} {r r' : Mv} (h : IsUsual row r) (h' : IsUsual row r') : r = r' := by
  rcases h with ⟨rfl, h0⟩ | ⟨x, rfl, hx, hm⟩ <;> rcases h' with ⟨rfl, h0'⟩ | ⟨y, rfl, hy, hm'⟩
  · rfl
  · rw [h0] at hy; omega
  · rw [h0'] at hx; omega
  · have h1 := hm y
    have h2 := hm' x
    have h3 : cnt row x = cnt row y := by omega
    have h4 := h1.2 h3.symm
    have h5 := h2.2 h3
    have : x = y := by omega
    rw [this]
theorem cnt_snoc (row : List Mv) (m : Mv) (x : Int) : cnt (row ++ [m]) x = cnt row x + if m.d = 2 ∧ m.n = x then 1 else 0 := by
  unfold cnt
  rw [List.filter_append, List.length_append]
  by_cases h : m.d = 2 ∧ m.n = x
  · simp [List.filter_cons, h]
  · rw [if_neg h]
    have : (decide (m.d = 2) && decide (m.n = x)) = false := by simpa using h
    simp [List.filter_cons, this]
theorem cnt_take {row : List Mv} {i : Nat} (h : i < row.length) (x : Int) : cnt (row.take (i + 1)) x = cnt (row.take i) x + if (row.getD i mv0).d = 2 ∧ (row.getD i mv0).n = x then 1 else 0 := by
  rw [take_succ' mv0 h, cnt_snoc]
theorem cnt_le (row : List Mv) (x : Int) : cnt row x ≤ row.length := List.length_filter_le _ _
theorem cnt_pos {row : List Mv} {m : Mv} (h : m ∈ row) (hd : m.d = 2) : 0 < cnt row m.n := by
  unfold cnt
  exact List.length_pos_of_mem (List.mem_filter.2 ⟨h, by simp [hd]⟩)
theorem cnt_mem {row : List Mv} {x : Int} (h : 0 < cnt row x) : ∃ m ∈ row, m.d = 2 ∧ m.n = x := by
  obtain ⟨m, hm⟩ := List.exists_mem_of_length_pos h
  obtain ⟨h1, h2⟩ := List.mem_filter.1 hm
  exact ⟨m, h1, by simpa using h2⟩
/-- One more is looked at. -/
def better (row : List Mv) (best : Mv) (x : Int) : Bool := decide (best.d = 0) || decide (cnt row best.n < cnt row x) || (decide (cnt row x = cnt row best.n) && decide (x < best.n))
/-- best is the best of those of p. -/
def Best (row : List Mv) (p : Int → Prop) (best : Mv) : Prop := (best = mv0 ∧ ∀ x, ¬ p x) ∨ ∃ x, best = ⟨2, x⟩ ∧ p x ∧ ∀ y, p y → cnt row y ≤ cnt row x ∧ (cnt row y = cnt row x → x ≤ y)
theorem Best.step {row : List Mv} {p q : Int → Prop} {best : Mv} {x : Int} (h : Best row p best) (hq : ∀ y, q y ↔ p y ∨ y = x) : Best row q (if better row best x = true then ⟨2, x⟩ else best) := by
  unfold better
  rcases h with ⟨rfl, h0⟩ | ⟨b, rfl, hb, hm⟩
  · rw [if_pos (by simp [mv0])]
    refine .inr ⟨x, rfl, (hq x).2 (.inr rfl), fun y hy => ?_⟩
    rcases (hq y).1 hy with h | rfl
    · exact absurd h (h0 y)
    · exact ⟨Nat.le_refl _, fun _ => Int.le_refl _⟩
  · by_cases hc : cnt row b < cnt row x ∨ cnt row x = cnt row b ∧ x < b
    · rw [if_pos (by simp; exact hc)]
      refine .inr ⟨x, rfl, (hq x).2 (.inr rfl), fun y hy => ?_⟩
      rcases (hq y).1 hy with h | rfl
      · have := hm y h
        omega
      · exact ⟨Nat.le_refl _, fun _ => Int.le_refl _⟩
    · rw [if_neg (by simp; omega)]
      refine .inr ⟨b, rfl, (hq b).2 (.inl hb), fun y hy => ?_⟩
      rcases (hq y).1 hy with h | rfl
      · exact hm y h
      · omega
theorem Best.usual {row : List Mv} {p : Int → Prop} {best : Mv} (h : Best row p best) (hp : ∀ x, p x ↔ 0 < cnt row x) : IsUsual row best := by
  rcases h with ⟨rfl, h0⟩ | ⟨x, rfl, hx, hm⟩
  · exact .inl ⟨rfl, fun x => by have := h0 x; rw [hp] at this; omega⟩
  · refine .inr ⟨x, rfl, (hp x).1 hx, fun y => ?_⟩
    have h1 := (hp x).1 hx
    by_cases hy : 0 < cnt row y
    · exact hm y ((hp y).2 hy)
    · omega
/-- The default, reckoned. -/
def usualF (row : List Mv) : Mv := row.foldl (fun best m => if m.d = 2 ∧ better row best m.n = true then ⟨2, m.n⟩ else best) mv0
theorem usual_fold (row : List Mv) : ∀ (r done : List Mv) (best : Mv), Best row (fun x => ∃ m ∈ done, m.d = 2 ∧ m.n = x) best → Best row (fun x => ∃ m ∈ done ++ r, m.d = 2 ∧ m.n = x) (r.foldl (fun best m => if m.d = 2 ∧ better row best m.n = true then ⟨2, m.n⟩ else best) best)
  | [], done, best, h => by simpa using h
  | m :: r, done, best, h => by
    rw [List.foldl_cons, show done ++ m :: r = (done ++ [m]) ++ r by simp]
    refine usual_fold row r (done ++ [m]) _ ?_
    by_cases hd : m.d = 2
    · have := Best.step (q := fun x => ∃ m' ∈ done ++ [m], m'.d = 2 ∧ m'.n = x) (x := m.n) h (fun y => by
        constructor
        · rintro ⟨m', hm', h1, h2⟩
          rcases List.mem_append.1 hm' with hm' | hm'
          · exact .inl ⟨m', hm', h1, h2⟩
          · rw [List.mem_singleton.1 hm'] at h2; exact .inr h2.symm
        · rintro (⟨m', hm', h1, h2⟩ | rfl)
          · exact ⟨m', List.mem_append_left _ hm', h1, h2⟩
          · exact ⟨m, by simp, hd, rfl⟩)
      by_cases hb : better row best m.n = true
      · rw [if_pos ⟨hd, hb⟩]; rwa [if_pos hb] at this
      · rw [if_neg (fun h => hb h.2)]; rwa [if_neg hb] at this
    · rw [if_neg (fun h => hd h.1)]
      rcases h with ⟨rfl, h0⟩ | ⟨x, rfl, hx, hm⟩
      · refine .inl ⟨rfl, fun x ⟨m', hm', h1, h2⟩ => ?_⟩
        rcases List.mem_append.1 hm' with hm' | hm'
        · exact h0 x ⟨m', hm', h1, h2⟩
        · rw [List.mem_singleton.1 hm'] at h1; exact hd h1
      · obtain ⟨m', hm', h1, h2⟩ := hx
        refine .inr ⟨x, rfl, ⟨m', List.mem_append_left _ hm', h1, h2⟩, fun y ⟨m'', hm'', h3, h4⟩ => ?_⟩
        rcases List.mem_append.1 hm'' with hm'' | hm''
        · exact hm y ⟨m'', hm'', h3, h4⟩
        · rw [List.mem_singleton.1 hm''] at h3; exact absurd h3 hd
theorem usualF_is (row : List Mv) : IsUsual row (usualF row) := by
  have := usual_fold row row [] mv0 (.inl ⟨rfl, fun x ⟨m, hm, _⟩ => by simp at hm⟩)
  refine this.usual fun x => ⟨fun ⟨m, hm, h1, h2⟩ => ?_, fun h => ?_⟩
  · rw [← h2]; exact cnt_pos (by simpa using hm) h1
  · obtain ⟨m, hm, h1, h2⟩ := cnt_mem h
    exact ⟨m, by simpa using hm, h1, h2⟩
/-- The counts as a map's entries. -/
def fC (row : List Mv) (x : Int) : Option Int := if cnt row x = 0 then none else some (cnt row x)
theorem fC_nil : (fun _ : Int => (none : Option Int)) = fC [] := by
  funext x
  simp [fC, cnt]
theorem fC_get (row : List Mv) (x : Int) : ((fC row x).map (Go.Value.int .i64)).getD (.int .i64 0) = .int .i64 (cnt row x) := by
  unfold fC
  split
  · rename_i h; rw [h]; rfl
  · rfl
theorem fC_some {row : List Mv} {x c : Int} (h : fC row x = some c) : 0 < cnt row x ∧ c = cnt row x := by
  unfold fC at h
  split at h
  · cases h
  · rename_i h0
    cases h
    exact ⟨by omega, rfl⟩
theorem fC_isSome (row : List Mv) (x : Int) : (fC row x).isSome = true ↔ 0 < cnt row x := by
  unfold fC
  split
  · rename_i h; simp [h]
  · rename_i h; simp; omega
theorem fC_step {row : List Mv} {i : Nat} (h : i < row.length) (hd : (row.getD i mv0).d = 2) : (fun y => if y = (row.getD i mv0).n then some ((cnt (row.take i) (row.getD i mv0).n : Int) + 1) else fC (row.take i) y) = fC (row.take (i + 1)) := by
  funext y
  by_cases hy : y = (row.getD i mv0).n
  · have e : cnt (row.take (i + 1)) y = cnt (row.take i) y + 1 := by rw [cnt_take h, if_pos ⟨hd, hy.symm⟩]
    rw [if_pos hy]
    unfold fC
    rw [e, if_neg (by omega), hy]
    rfl
  · have e : cnt (row.take (i + 1)) y = cnt (row.take i) y := by rw [cnt_take h, if_neg (fun g => hy g.2.symm), Nat.add_zero]
    rw [if_neg hy]
    unfold fC
    rw [e]
theorem fC_skip {row : List Mv} {i : Nat} (h : i < row.length) (hd : (row.getD i mv0).d ≠ 2) : fC (row.take i) = fC (row.take (i + 1)) := by
  funext y
  have e : cnt (row.take (i + 1)) y = cnt (row.take i) y := by rw [cnt_take h, if_neg (fun g => hd g.1), Nat.add_zero]
  unfold fC
  rw [e]
theorem cnt_i64 {row : List Mv} (hw : ∀ m ∈ row, I64 m.n) {x : Int} (h : 0 < cnt row x) : I64 x := by
  obtain ⟨m, hm, _, rfl⟩ := cnt_mem h
  exact hw m hm
theorem Best.i64 {row : List Mv} {p : Int → Prop} {best : Mv} (hw : ∀ m ∈ row, I64 m.n) (hp : ∀ x, p x → 0 < cnt row x) (h : Best row p best) : I64 best.n := by
  rcases h with ⟨rfl, _⟩ | ⟨x, rfl, hx, _⟩
  · show I64 0; unfold I64; omega
  · exact cnt_i64 hw (hp x hx)
theorem left_step {row : List Mv} {left left2 : Int → Bool} {kx : Int} (hw : ∀ m ∈ row, I64 m.n) (hc0 : 0 < cnt row kx) (h4 : ∀ y, (Go.Lit.int .i64 y).wf = true → (left2 y = true ↔ left y = true ∧ y ≠ kx)) :
    ∀ y, (0 < cnt row y ∧ left2 y = false) ↔ (0 < cnt row y ∧ left y = false) ∨ y = kx := by
  intro y
  by_cases hc : 0 < cnt row y
  · have h := h4 y (wf64 (cnt_i64 hw hc))
    by_cases hy : y = kx
    · subst hy
      have : left2 y = false := by
        cases h1 : left2 y
        · rfl
        · exact absurd rfl (h.1 h1).2
      exact ⟨fun _ => .inr rfl, fun _ => ⟨hc, this⟩⟩
    · have : left2 y = left y := by
        cases h1 : left2 y <;> cases h2 : left y <;> first | rfl | skip
        · have := h.2 ⟨h2, hy⟩; rw [h1] at this; cases this
        · have := (h.1 h1).1; rw [h2] at this; cases this
      rw [this]
      exact ⟨fun g => .inl g, fun g => g.resolve_right hy⟩
  · constructor
    · rintro ⟨h, _⟩; exact absurd h hc
    · rintro (⟨h, _⟩ | rfl)
      · exact absurd h hc
      · exact absurd hc0 hc
end Go.Proofs.YtkpehkadammppaaFx

/-! The default of a row, as the document reckons it. -/
namespace Go.Proofs.YtkpehkadammppaaFx
open Go
def RU (row : List Mv) (i : Nat) (best most : Int) : Prop := (most = 0 ∧ best = -1 ∧ ∀ j, j < i → (row.getD j mv0).d ≠ 2) ∨ (0 < most ∧ most = cnt row best ∧ ∀ j, j < i → (row.getD j mv0).d = 2 → (cnt row (row.getD j mv0).n : Int) < most ∨ ((cnt row (row.getD j mv0).n : Int) = most ∧ best ≤ (row.getD j mv0).n))
theorem RU.skip {row : List Mv} {i : Nat} {best most : Int} (h : RU row i best most) (hd : (row.getD i mv0).d ≠ 2) : RU row (i + 1) best most := by
  rcases h with ⟨h1, h2, h3⟩ | ⟨h1, h2, h3⟩
  · exact .inl ⟨h1, h2, upto_succ h3 hd⟩
  · exact .inr ⟨h1, h2, upto_succ h3 (fun h => absurd h hd)⟩
theorem RU.keep {row : List Mv} {i : Nat} {best most : Int} (h : RU row i best most) (hi : i < row.length) (hd : (row.getD i mv0).d = 2) (hb : ¬ ((cnt row (row.getD i mv0).n : Int) > most ∨ ((cnt row (row.getD i mv0).n : Int) = most ∧ (row.getD i mv0).n < best))) : RU row (i + 1) best most := by
  have hp := cnt_pos (getD_mem (z := mv0) hi) hd
  rcases h with ⟨h1, h2, h3⟩ | ⟨h1, h2, h3⟩
  · omega
  · exact .inr ⟨h1, h2, upto_succ h3 (fun _ => by omega)⟩
theorem RU.take {row : List Mv} {i : Nat} {best most : Int} (h : RU row i best most) (hi : i < row.length) (hd : (row.getD i mv0).d = 2) (hb : (cnt row (row.getD i mv0).n : Int) > most ∨ ((cnt row (row.getD i mv0).n : Int) = most ∧ (row.getD i mv0).n < best)) : RU row (i + 1) (row.getD i mv0).n (cnt row (row.getD i mv0).n) := by
  have hp := cnt_pos (getD_mem (z := mv0) hi) hd
  rcases h with ⟨h1, h2, h3⟩ | ⟨h1, h2, h3⟩
  · exact .inr ⟨by omega, rfl, upto_succ (fun j hj h => absurd h (h3 j hj)) (fun _ => .inr ⟨rfl, Int.le_refl _⟩)⟩
  · exact .inr ⟨by omega, rfl, upto_succ (fun j hj h => by have := h3 j hj h; omega) (fun _ => .inr ⟨rfl, Int.le_refl _⟩)⟩
theorem mem_getD {row : List Mv} {m : Mv} (h : m ∈ row) : ∃ j, j < row.length ∧ row.getD j mv0 = m := by
  obtain ⟨j, hj, he⟩ := List.mem_iff_getElem.1 h
  exact ⟨j, hj, by rw [List.getD_eq_getElem?_getD, List.getElem?_eq_getElem hj]; exact he⟩
theorem RU.fin {row : List Mv} {i : Nat} {best most : Int} (h : RU row i best most) (hi : ¬ ((i : Int) < row.length)) : (best < 0 ∧ most = 0 → usualF row = mv0) ∧ (¬ (best < 0 ∧ most = 0) → usualF row = ⟨2, best⟩) := by
  refine ⟨fun hc => ?_, fun hc => ?_⟩
  · rcases h with ⟨h1, h2, h3⟩ | ⟨h1, h2, h3⟩
    · refine (usualF_is row).unique (.inl ⟨rfl, fun x => ?_⟩)
      rcases Nat.eq_zero_or_pos (cnt row x) with h0 | h0
      · exact h0
      · obtain ⟨m, hm, hd, _⟩ := cnt_mem h0
        obtain ⟨j, hj, rfl⟩ := mem_getD hm
        exact absurd hd (h3 j (by omega))
    · omega
  · rcases h with ⟨h1, h2, h3⟩ | ⟨h1, h2, h3⟩
    · omega
    · refine (usualF_is row).unique (.inr ⟨best, rfl, by omega, fun y => ?_⟩)
      rcases Nat.eq_zero_or_pos (cnt row y) with h0 | h0
      · omega
      · obtain ⟨m, hm, hd, rfl⟩ := cnt_mem h0
        obtain ⟨j, hj, rfl⟩ := mem_getD hm
        have := h3 j (by omega) hd
        omega
theorem cnt_hit {row : List Mv} {s : Nat} {m : Mv} (h : s < row.length) (he : row.getD s mv0 = m) (hd : m.d = 2) : cnt (row.take (s + 1)) m.n = cnt (row.take s) m.n + 1 := by
  rw [cnt_take h, he, if_pos ⟨hd, rfl⟩]
theorem cnt_miss {row : List Mv} {s : Nat} {m : Mv} (h : s < row.length) (he : ¬ row.getD s mv0 = m) (hd : m.d = 2) : cnt (row.take (s + 1)) m.n = cnt (row.take s) m.n := by
  rw [cnt_take h, if_neg (fun hh => he (by
    obtain ⟨h1, h2⟩ := hh
    revert h1 h2 hd
    cases row.getD s mv0
    cases m
    intro hd h1 h2
    simp_all)), Nat.add_zero]
end Go.Proofs.YtkpehkadammppaaFx

/-! A table with its defaults. -/
namespace Go.Proofs.YtkpehkadammppaaFx
open Go Go.RowKit
def dfm (row : List Mv) (m : Mv) : Mv := if m.d = 0 then usualF row else m
def dfRow (row : List Mv) : List Mv := row.map (dfm row)
def dfUpto (row : List Mv) (s : Nat) : List Mv := (row.take s).map (dfm row) ++ row.drop s
theorem dfUpto_len (row : List Mv) (s : Nat) : (dfUpto row s).length = row.length := by
  simp only [dfUpto, List.length_append, List.length_map, List.length_take, List.length_drop]; omega
theorem dfUpto_get {row : List Mv} {s : Nat} (h : s < row.length) : (dfUpto row s).getD s mv0 = row.getD s mv0 := by
  have hl : ((row.take s).map (dfm row)).length = s := by simp; omega
  rw [dfUpto, List.getD_eq_getElem?_getD, List.getElem?_append_right (by omega), hl, Nat.sub_self, List.getElem?_drop, Nat.add_zero, ← List.getD_eq_getElem?_getD]
theorem dfUpto_next {row : List Mv} {s : Nat} (h : s < row.length) : dfUpto row (s + 1) = (dfUpto row s).set s (dfm row (row.getD s mv0)) := by
  have hl : ((row.take s).map (dfm row)).length = s := by simp; omega
  unfold dfUpto
  rw [List.set_append_right _ _ (by omega), hl, Nat.sub_self, take_succ' mv0 h, List.map_append, List.append_assoc]
  congr 1
  have : row.drop s = row.getD s mv0 :: row.drop (s + 1) := by
    rw [List.getD_eq_getElem?_getD, List.getElem?_eq_getElem h]
    exact List.drop_eq_getElem_cons h
  rw [this, List.set_cons_zero]
  rfl
theorem dfUpto_keep {row : List Mv} {s : Nat} (h : s < row.length) (hd : ¬ (row.getD s mv0).d = 0) : dfUpto row (s + 1) = dfUpto row s := by
  rw [dfUpto_next h, dfm, if_neg hd]
  have := dfUpto_get h
  rw [← this]
  apply List.ext_getElem?
  intro j
  rcases Nat.decEq s j with hj | hj
  · rw [List.getElem?_set_ne hj]
  · subst hj
    have hl : s < (dfUpto row s).length := by rw [dfUpto_len]; exact h
    rw [List.getElem?_set_self hl, List.getD_eq_getElem?_getD, List.getElem?_eq_getElem hl]
    rfl
theorem dfUpto_all {row : List Mv} {s : Nat} (h : ¬ ((s : Int) < row.length)) : dfUpto row s = dfRow row := by
  rw [dfUpto, take_all h, List.drop_of_length_le (by omega), List.append_nil]
  rfl
theorem dfUpto_zero (row : List Mv) : dfUpto row 0 = row := rfl
theorem map_take_succ {α β : Type} {xs : List α} {i : Nat} (z : α) (g : α → β) (h : i < xs.length) : (xs.take (i + 1)).map g = (xs.take i).map g ++ [g (xs.getD i z)] := by
  rw [take_succ' z h, List.map_append]
  rfl
/-- The table with its defaults. -/
def dfT (t : Tb) : Tb := ⟨t.mv.map dfRow, t.go⟩
/-- What Defaults answers. -/
noncomputable def dfAns (t : Tb) : Tb := if dec (Rect t) then dfT t else ⟨[], []⟩
noncomputable def dfErr (t : Tb) : Int := if dec (Rect t) then 0 else 170
theorem dfAns_t {t : Tb} (h : dec (Rect t) = true) : dfAns t = dfT t ∧ dfErr t = 0 := by
  rw [dfAns, dfErr, h]; exact ⟨rfl, rfl⟩
theorem dfAns_f {t : Tb} (h : dec (Rect t) = false) : dfAns t = ⟨[], []⟩ ∧ dfErr t = 170 := by
  rw [dfAns, dfErr, h]; exact ⟨rfl, rfl⟩
/-- A table of the call's own. -/
def OwnT (v1 v2 : Value) (t : Tb) : List Ch := [RR fMv 38 48 v1 t.mv, RR (fInt .i64) 39 3 v2 t.go]
section
variable {α : Type} {f : Fk α} {P : Program} {n : Nat} {Q : Post} {l : Fr} {w W0 : World} {L : List Ch} {ops : Array Oper} {rest : List Oper} {d : Nat} {x sx : Operand} {ty t e : TypeId} {pos : String} {af : Array Edge} {v : Value} {A : Option Addr}
/-- append(nil, ys...): a copy. -/
theorem wl_copy {z : Value} {bytes c' : Nat} {ys : List α} (H : Holds W0 L w) (hn : Nat.ble (d + 1) n = true)
    (ht : P.underlying t = some (.slice e)) (hi : (P.info? e).map (fun i => (i.zero, i.size, i.bytes)) = some (some z, f.sz, bytes)) (hz : z.cells.size = f.sz) (hs0 : 0 < f.sz)
    (hs : ev l sx = some (.slice none 0 0)) (hx : ev l x = some (.slice A ys.length c')) (hr : Rd f.kn w A ys) (hb : ys.length * bytes ≤ 140737488355328) (hb0 : 0 < bytes)
    (h : ∀ A c w', Holds W0 (Row f e (.slice A ys.length c) ys :: L) w' → w.heap.size ≤ w'.heap.size → wl P n ops rest Q ((d, .slice A ys.length c) :: l) w') : wl P n ops (⟨some d, .call { callee := .builtin .append, args := #[sx, x], argTypes := #[t, t] }, ty, pos, af, none⟩ :: rest) Q l w := by
  have Hn : Holds W0 (Row f e (.slice none 0 0) [] :: L) w := H.nilrow e f.sz
  refine wl_appR (xs := []) (ys := ys) (L' := fun v' => Row f e v' ys :: L) Hn (fun v' => .here _ _ _) hn ht hi hz hs0 hs hx hr (by simpa using hb) hb0 (fun A c w' H' hsz => h A c w' H' hsz)
end
end Go.Proofs.YtkpehkadammppaaFx

/-! Two numbers of an own row change places. -/
namespace Go.Proofs.YtkpehkadammppaaFx
open Go Go.RowKit
/-- Places i and j exchanged. -/
def swp (xs : List Int) (i j : Nat) : List Int := (xs.set i (xs.getD j 0)).set j (xs.getD i 0)
theorem Upd.mid {L L' : List Ch} {A C : Ch} (B : Ch) (U : Upd L A C L') : ∃ Lm, Upd L A B Lm ∧ Upd Lm B C L' := by
  induction U with
  | here A C L => exact ⟨_, .here A B L, .here B C L⟩
  | there D h ih =>
    obtain ⟨Lm, h1, h2⟩ := ih
    exact ⟨_, .there D h1, .there D h2⟩
section
variable {w W0 : World} {L L' : List Ch} {e n c g j : Nat} {A : Option Addr} {xs : List Int} {x : Int}
theorem Holds.blk0 (H : Holds W0 L w) (U : Upd L (Row (fInt .i64) e (.slice A n c) xs) (Row (fInt .i64) e (.slice A n c) xs) L) (hn : 0 < xs.length) : ∃ g, A = some ⟨g, 0, none⟩ := by
  have h := H.raw U
  rcases h.2 with ⟨_, hz⟩ | ⟨g, cap, cur, hv, _⟩
  · omega
  · injection hv with h1
    exact ⟨g, h1⟩
theorem Holds.setI (H : Holds W0 L w) (U : Upd L (Row (fInt .i64) e (.slice (some ⟨g, 0, none⟩) n c) xs) (Row (fInt .i64) e (.slice (some ⟨g, 0, none⟩) n c) (xs.set j x)) L') (hj : j < xs.length) : Holds W0 L' (w.setCell ⟨g, 0 + j, none⟩ (.int .i64 x)) := by
  obtain ⟨S, hS, ⟨hSv, hown⟩, hstep⟩ := H.upd U
  rcases hown.2 with ⟨_, hz⟩ | ⟨g', cap, cur, hv, _, hh, hnc, hcm, hsz2, hcur⟩
  · omega
  · injection hv with hA hnn hcap
    injection hA with hA
    injection hA with hA _ _
    subst hA hcap
    rw [Nat.zero_add]
    have hsz : (w.setCell ⟨g, j, none⟩ (.int .i64 x)).heap.size = w.heap.size := by simp [World.setCell]
    have hcl : cur.toList.length = c * 1 := by simpa [fInt] using hsz2
    refine hstep _ S rfl rfl rfl (by rw [hsz]; exact Nat.le_refl _) (fun k hk hn => heap_setCell_other w _ k _ (fun ek => hn (ek ▸ hSv g (by simp [Value.ownBlock])))) (fun k hk => .inl hk) ⟨hSv, ?_⟩
    refine ⟨by rw [flat_len, List.length_set], .inr ⟨g, c, _, by rw [List.length_set, hnn], Nat.zero_le _, heap_setCell_same w g j cur e _ (by simpa using hh), by rw [List.length_set]; exact hnc, hcm, by simpa using hsz2, ?_⟩⟩
    rw [List.length_set]
    have h1 := flat_splice (fInt .i64) xs j x hj
    have h2 := take_splice cur.toList ((fInt .i64).enc x) (j * 1) 1 (xs.length * 1) rfl (by omega) (by rw [hcl]; exact Nat.mul_le_mul_right _ hnc)
    have h3 : cur.toList.take (xs.length * 1) = xs.flatMap (fInt .i64).enc := hcur
    rw [h3] at h2
    have h4 : (cur.setIfInBounds j (.int .i64 x)).toList = cur.toList.take (j * 1) ++ (fInt .i64).enc x ++ cur.toList.drop (j * 1 + 1) := by
      rw [Array.toList_setIfInBounds, Nat.mul_one, List.set_eq_take_append_cons_drop, if_pos (by rw [hcl]; omega)]
      simp [fInt]
    rw [h4]
    exact h2.trans h1
end
end Go.Proofs.YtkpehkadammppaaFx

/-! sort.SliceStable at one element or none. -/
namespace Go.Proofs.Ytkpehkadammppaa.SortT
open Go Go.RowKit Go.Proofs.YtkpehkadammppaaFx 
theorem agg147 : Agg Try.prog 147 3 := agg_of Try.underlying147 (by kernel_rfl)
theorem agg152 : Agg Try.prog 152 2 := agg_of Try.underlying152 (by kernel_rfl)
theorem ba152 : BuildAt Try.prog 152 [.nilFunc, .nilFunc] [(0, 1), (1, 1)] := build_at Try.underlying152 (by kernel_rfl) (by kernel_rfl)
theorem en73 : Enters Try.prog 73 := enters Try.func73 (by kernel_rfl) rfl
theorem en88 : Enters Try.prog 88 := enters Try.func88 (by kernel_rfl) rfl
theorem sz147 : ∀ W, (sizeOf 147).run Try.prog W = .ok 3 W := size_of (by kernel_rfl)
theorem zv147 : ∀ W, (zeroValue 147).run Try.prog W = .ok (.agg #[.pointer none, .pointer none, .int .u64 0]) W := zero_of (by kernel_rfl)

open Go.Lib Go.Extern in
theorem valueOf_run {A : Option Addr} {n c : Nat} (w : World) : (callFunc 71 #[.iface 39 (.slice A n c)]).run Try.prog w = .ok (.value (.agg #[typeHandle Try.prog 39, .pointer (some ⟨w.heap.size, 0, none⟩), .int .u64 151])) (w.alloc (.cells #[.slice A n c] 39)) := by
  have h : (Try.prog.info? 39).map (·.desc) = some (.slice 3) := by kernel_rfl
  obtain ⟨i, hi, hd⟩ := Option.map_eq_some_iff.1 h
  rw [run_callFunc_extern Try.func71 (by kernel_rfl) (by kernel_rfl) (by kernel_rfl) (e := fun args => ReflectliteValue.unpack (args.getD 0 (.tuple #[]))) (by kernel_rfl)]
  rw [show Sem.run Try.prog ((fun args : Array Value => ReflectliteValue.unpack (args.getD 0 (.tuple #[]))) #[.iface 39 (.slice A n c)]) w = _ from run_valueOf_slice (P := Try.prog) 39 3 i hi hd A n c w]
  rfl
open Go.Lib Go.Extern in
theorem valueLen_run {A : Option Addr} {n c : Nat} {a : Addr} (w : World) (ha : w.cell? a = some (.slice A n c)) : (callFunc 74 #[.agg #[typeHandle Try.prog 39, .pointer (some a), .int .u64 151]]).run Try.prog w = .ok (.value (.int .i64 n)) w := by
  have h : (Try.prog.info? 39).map (·.desc) = some (.slice 3) := by kernel_rfl
  obtain ⟨i, hi, hd⟩ := Option.map_eq_some_iff.1 h
  rw [run_callFunc_extern Try.func74 (by kernel_rfl) (by kernel_rfl) (by kernel_rfl) (e := ReflectliteValue.method (ReflectliteValue.valueError "reflectlite.Value.Len" 0) ReflectliteValue.len) (by kernel_rfl),
    run_valueLen_slice (P := Try.prog) 39 3 i hi hd (by kernel_rfl) a A n c w ha]
  rfl
set_option maxRecDepth 100000 in
open Go.Lib Go.Extern in
theorem swapper_run {A : Option Addr} {n c : Nat} (w : World) : ∃ f b, (callFunc 72 #[.iface 39 (.slice A n c)]).run Try.prog w = .ok (.value (.func (.func f) #[] b)) w ∧ (2 ≤ n → f = 83 ∧ b = #[.slice A n c, typeHandle Try.prog 3]) := by
  have h : (Try.prog.info? 39).map (·.desc) = some (.slice 3) := by kernel_rfl
  obtain ⟨i, hi, hd⟩ := Option.map_eq_some_iff.1 h
  have h2 : (Try.prog.info? 3).map (fun j => (j.desc, j.str, j.hasPointers, j.bytes)) = some (.int .i64, "int", false, 8) := by kernel_rfl
  obtain ⟨ie, hie, hk⟩ := Option.map_eq_some_iff.1 h2
  simp only [Prod.mk.injEq] at hk
  obtain ⟨k1, k2, k3, k4⟩ := hk
  have hke : ∀ w, (Rtype.kind 3).run Try.prog w = .ok 2 w := fun w => by simp [Rtype.kind, Rtype.under, typeInfo, hie, k1, k2, Result.andThen]
  have hx := fun f hf => run_callFunc_extern Try.func72 (by kernel_rfl) (by kernel_rfl) (by kernel_rfl) (e := ReflectliteSwapper.swapper "internal/reflectlite" (ReflectliteValue.valueError "Swapper")) (by kernel_rfl) #[.iface 39 (.slice A n c)] w |>.trans (congrArg (fun r => Result.andThen r fun v w' => Result.ok (Next.value v) w') (run_swapper_slice (P := Try.prog) 39 3 i ie hi hd hie 2 hke A n c f hf w))
  rcases (by omega : n = 0 ∨ n = 1 ∨ 2 ≤ n) with rfl | rfl | hn
  · exact ⟨79, _, hx 79 (by kernel_rfl), fun h => by omega⟩
  · exact ⟨80, _, hx 80 (by kernel_rfl), fun h => by omega⟩
  · have hK : swapperK n ie 2 = 5 := by
      have c : (n == 0) = false := by simp; omega
      have d : (n == 1) = false := by simp; omega
      simp [swapperK, k3, k4, c, d]
    refine ⟨83, _, hx 83 (by rw [hK]; kernel_rfl), fun _ => ⟨rfl, by rw [hK]; rfl⟩⟩

set_option maxRecDepth 100000 in
theorem insertion_none {lf sf : Value} {a b : Int} {w : World} (h1 : lf.oneCell' = true) (h2 : sf.oneCell' = true) (hab : b ≤ a + 1) (ha : 0 ≤ a ∧ a ≤ 1099511627776) :
    Calls Try.prog 88 #[.agg #[lf, sf], .int .i64 a, .int .i64 b] w fun e w' => ∃ v, e = .returned v ∧ v = .tuple #[] ∧ Holds w [] w' := by
  refine calls_of Try.func88 rfl Try.ntmps88 rfl ?_
  have H := Holds.start w
  refine wc_seq ?_
  refine wc_region ?_
  refine wl_box (cs := [_, _]) H rfl rfl rfl ?_
  intro b3 w1 hb3 H2
  refine wl_nil ?_
  refine wc_seq ?_
  refine wc_region ?_
  refine wl_v rfl rfl rfl (v_move rfl) ?_
  refine wl_v rfl rfl rfl (v_addi rfl rfl (by omega)) ?_
  refine wl_v rfl rfl rfl (v_assign rfl) ?_
  refine wl_nil ?_
  refine wc_block ?_
  refine wc_loop (σ := Nat) (fun s => [(2, .int .i64 b), (6, .int .i64 (a + 1))]) (fun s W => Holds w [] W) (fun s => s) 0 (sc rfl (sc rfl (sn _))) (H2.pm (Pm.nil _)) ?_
  rintro i W0 H
  refine wc_seq ?_
  refine wc_seq ?_
  refine wc_region ?_
  refine wl_v rfl rfl rfl (v_move rfl) ?_
  refine wl_v rfl rfl rfl (v_move rfl) ?_
  refine wl_v rfl rfl rfl (v_lss rfl rfl) ?_
  refine wl_nil ?_
  refine wc_cond rfl (fun c0 => ?_) (fun c0 => ?_)
  · have c0p := of_decide_eq_true c0
    exact absurd c0p (by omega)
  · have c0p := of_decide_eq_false c0
    refine wc_exit ?_
    exact ⟨_, res0 rfl, rfl, H⟩

set_option maxRecDepth 100000 in
theorem stable_none {lf sf : Value} {b : Int} {w : World} (h1 : lf.oneCell' = true) (h2 : sf.oneCell' = true) (hb : b ≤ 1) :
    Calls Try.prog 73 #[.agg #[lf, sf], .int .i64 b] w fun e w' => ∃ v, e = .returned v ∧ v = .tuple #[] ∧ Holds w [] w' := by
  refine calls_of Try.func73 rfl Try.ntmps73 rfl ?_
  have H := Holds.start w
  refine wc_seq ?_
  refine wc_region ?_
  refine wl_box (cs := [_, _]) H rfl rfl rfl ?_
  intro b2 w1 hb2 H2
  refine wl_nil ?_
  refine wc_seq ?_
  refine wc_region ?_
  refine wl_v rfl rfl rfl (v_assign rfl) ?_
  refine wl_nil ?_
  refine wc_seq ?_
  refine wc_region ?_
  refine wl_v rfl rfl rfl (v_move rfl) ?_
  refine wl_v rfl rfl rfl (v_assign rfl) ?_
  refine wl_v rfl rfl rfl (v_assign rfl) ?_
  refine wl_nil ?_
  refine wc_seq ?_
  refine wc_block ?_
  refine wc_loop (σ := Nat) (fun s => [(1, .int .i64 b), (2, .pointer (some ⟨b2, 0, none⟩)), (4, .int .i64 20), (5, .int .i64 0), (6, .int .i64 20)]) (fun s W => Holds w [Blk b2 152 [lf, sf]] W) (fun s => s) 0 (sc rfl (sc rfl (sc rfl (sc rfl (sc rfl (sn _)))))) H2 ?_
  rintro i W0 H
  refine wc_seq ?_
  refine wc_seq ?_
  refine wc_region ?_
  refine wl_v rfl rfl rfl (v_move rfl) ?_
  refine wl_v rfl rfl rfl (v_move rfl) ?_
  refine wl_v rfl rfl rfl (v_leq rfl rfl) ?_
  refine wl_nil ?_
  refine wc_cond rfl (fun c0 => ?_) (fun c0 => ?_)
  · have c0p := of_decide_eq_true c0
    exact absurd c0p (by omega)
  · have c0p := of_decide_eq_false c0
    refine wc_exit ?_
    refine wc_seq ?_
    refine wc_region ?_
    refine wl_v rfl rfl rfl (v_loadN agg152 rfl rfl (H.ats (by repeat constructor))) ?_
    refine wl_v rfl rfl rfl (v_move rfl) ?_
    refine wl_v rfl rfl rfl (v_move rfl) ?_
    refine wl_call en88 rfl rfl (insertion_none h1 h2 (by omega) (by omega)) ?_
    rintro _ w3 ⟨rfl, Hc⟩
    have H4 := H.call Hc
    refine wl_nil ?_
    refine wc_block ?_
    refine wc_loop (σ := Nat) (fun s => [(1, .int .i64 b), (4, .int .i64 20)]) (fun s W => Holds w [] W) (fun s => s) 0 (sc rfl (sc rfl (sn _))) (H4.pm (Pm.nil _)) ?_
    rintro i W1 H
    refine wc_seq ?_
    refine wc_seq ?_
    refine wc_region ?_
    refine wl_v rfl rfl rfl (v_move rfl) ?_
    refine wl_v rfl rfl rfl (v_move rfl) ?_
    refine wl_v rfl rfl rfl (v_lss rfl rfl) ?_
    refine wl_nil ?_
    refine wc_cond rfl (fun c1 => ?_) (fun c1 => ?_)
    · have c1p := of_decide_eq_true c1
      exact absurd c1p (by omega)
    · have c1p := of_decide_eq_false c1
      refine wc_exit ?_
      exact ⟨_, res0 rfl, rfl, H⟩

set_option maxRecDepth 100000 in
theorem sort_tiny {A : Option Addr} {m c g : Nat} {cap : Array Value} {w : World} (hm : m ≤ 1) :
    Calls Try.prog 56 #[.iface 39 (.slice A m c), .func (.func g) #[] cap] w fun e w' => ∃ v, e = .returned v ∧ v = .tuple #[] ∧ Holds w [] w' := by
  refine calls_of Try.func56 rfl Try.ntmps56 rfl ?_
  have H := Holds.start w
  refine wc_seq ?_
  refine wc_region ?_
  refine wl_v rfl rfl rfl (v_move rfl) ?_
  refine wl_ext (vs := [.iface 39 (.slice A m c)]) rfl rfl (valueOf_run _) ?_
  have H1 := H.alloc 39 [.slice A m c]
  generalize hbw : w.heap.size = b7 at H1 ⊢
  refine wl_alloc (cs := [.pointer none, .pointer none, .int .u64 0]) H1 rfl zv147 rfl ?_
  intro b4 w2 hb4 H3
  refine wl_store (vs := [_, _, _]) H3 (by repeat constructor) sz147 rfl rfl rfl rfl rfl (by repeat constructor) ?_
  intro w4 H5 hw4
  refine wl_nil ?_
  refine wc_seq ?_
  refine wc_region ?_
  refine wl_v rfl rfl rfl (v_move rfl) ?_
  obtain ⟨fs, sb, hsw, _⟩ := swapper_run (A := A) (n := m) (c := c) _
  refine wl_ext (vs := [.iface 39 (.slice A m c)]) rfl rfl hsw ?_
  refine wl_v rfl rfl rfl (v_assign rfl) ?_
  refine wl_nil ?_
  refine wc_region ?_
  refine wl_v rfl rfl rfl (v_move rfl) ?_
  refine wl_v rfl rfl rfl (v_move rfl) ?_
  refine wl_v rfl rfl rfl (v_bld ba152 rfl (by repeat constructor)) ?_
  refine wl_v rfl rfl rfl (v_loadN agg147 rfl rfl (H5.ats (by repeat constructor))) ?_
  refine wl_ext (vs := [.agg #[typeHandle Try.prog 39, .pointer (some ⟨b7, 0, none⟩), .int .u64 151]]) rfl rfl (valueLen_run _ (H5.at (by repeat constructor) rfl)) ?_
  refine wl_call en73 rfl rfl (stable_none rfl rfl (by omega)) ?_
  rintro _ w8 ⟨rfl, Hc⟩
  have H9 := H5.call Hc
  refine wl_nil ?_
  exact ⟨_, res0 rfl, rfl, H9.pm (Pm.nil _)⟩
end Go.Proofs.Ytkpehkadammppaa.SortT

/-! Two places of the order are exchanged. -/
namespace Go.Proofs.Ytkpehkadammppaa.SwapW
open Go Go.RowKit Go.Proofs.YtkpehkadammppaaFx Go.Proofs.Ytkpehkadammppaa.SortT
theorem one3 : One Try.prog 3 := one_of Try.underlying3 rfl (by kernel_rfl)

set_option maxRecDepth 100000 in
open Go.Lib Go.Extern in
theorem swap_run {W0 w : World} {L L' : List Ch} {g n i j : Nat} {xs : List Int} (H : Holds W0 L w) (U : Upd L (Row (fInt .i64) 3 (.slice (some ⟨g, 0, none⟩) n n) xs) (Row (fInt .i64) 3 (.slice (some ⟨g, 0, none⟩) n n) (swp xs i j)) L') (hi : i < xs.length) (hj : j < xs.length) :
    ∃ w', (callFunc 83 #[.int .i64 i, .int .i64 j, .slice (some ⟨g, 0, none⟩) n n, typeHandle Try.prog 3]).run Try.prog w = .ok (.value (.tuple #[])) w' ∧ Holds W0 L' w' := by
  have h2 : (Try.prog.info? 3).map (fun j => j.size) = some 1 := by kernel_rfl
  obtain ⟨ie, hie, hs⟩ := Option.map_eq_some_iff.1 h2
  have hagg : ∀ w, (isAgg 3).run Try.prog w = .ok false w := one3.agg
  obtain ⟨Lm, U1, U2⟩ := U.mid (Row (fInt .i64) 3 (.slice (some ⟨g, 0, none⟩) n n) (xs.set i (xs.getD j 0)))
  obtain ⟨_, _, hA, _⟩ := H.upd U
  obtain ⟨hn, _, hr⟩ := rd_of_own (f := fInt .i64) hA.2
  have ci := hr.at1N hi
  have cj := hr.at1N hj
  simp only [adr, Nat.mul_one, Int.toNat_natCast, Addr.add_lit] at ci cj
  have hfr : ∀ q, w.frozen? ⟨g, q, none⟩ = false := fun q => by
    rcases hA.2.2 with ⟨_, hz⟩ | ⟨g', cap, cur, hv, _, hh, _⟩
    · omega
    · injection hv with hv1 _ _
      injection hv1 with hv1
      injection hv1 with hv1 _ _
      subst hv1
      exact frozen_of_row w g q _ 3 hh
  have hrun := run_swap_one (P := Try.prog) true 3 ie hie hs hagg g 0 n n i j (by omega) (by omega) (.int .i64 (xs.getD i 0)) (.int .i64 (xs.getD j 0)) rfl rfl w ci cj (hfr _) (hfr _)
  have hx := run_callFunc_extern Try.func83 (by kernel_rfl) (by kernel_rfl) (by kernel_rfl) (e := ReflectliteSwapper.swap true) (by kernel_rfl) #[.int .i64 i, .int .i64 j, .slice (some ⟨g, 0, none⟩) n n, typeHandle Try.prog 3] w
  rw [hrun] at hx
  exact ⟨_, hx, (H.setI U1 hi).setI U2 (by rw [List.length_set]; exact hj)⟩
end Go.Proofs.Ytkpehkadammppaa.SwapW

/-! Which of two rows is the longer. -/
namespace Go.Proofs.Ytkpehkadammppaa.Less
open Go Go.RowKit Go.Proofs.YtkpehkadammppaaFx 
theorem mixed : Try.prog.follows .mixedOrders = true := by kernel_rfl
theorem one23 : One Try.prog 23 := one_of Try.underlying23 rfl (by kernel_rfl)
theorem one3 : One Try.prog 3 := one_of Try.underlying3 rfl (by kernel_rfl)
theorem one39 : One Try.prog 39 := one_of Try.underlying39 rfl (by kernel_rfl)
theorem sz3 : ∀ W, (sizeOf 3).run Try.prog W = .ok 1 W := size_of (by kernel_rfl)
theorem sz39 : ∀ W, (sizeOf 39).run Try.prog W = .ok 1 W := size_of (by kernel_rfl)

set_option maxRecDepth 100000 in
theorem less_calls {A R : Option Addr} {cr b2 b6 n c i k : Nat} {xs : List Int} {rows : List (List Int)} {w : World} (h2 : ∀ j v, ([.slice R rows.length cr] : List Value)[j]? = some v → w.cell? ⟨b2, j, none⟩ = some v) (h6 : ∀ j v, ([.slice A n c] : List Value)[j]? = some v → w.cell? ⟨b6, j, none⟩ = some v)
    (ho : Rd (kInt .i64) w A xs) (hr : Rd (kInt .i64).sl w R rows) (hn : n = xs.length) (hi : i < xs.length) (hk : k < xs.length) (hx : ∀ x ∈ xs, 0 ≤ x ∧ x < rows.length) :
    Calls Try.prog 57 #[.int .i64 i, .int .i64 k, .pointer (some ⟨b2, 0, none⟩), .pointer (some ⟨b6, 0, none⟩)] w fun e w' => ∃ v, e = .returned v ∧ v = .bool (decide (((rows.getD (xs.getD i 0).toNat []).length : Int) > (rows.getD (xs.getD k 0).toNat []).length)) ∧ Holds w [] w' := by
  subst hn
  have g1 := hx _ (getD_mem (z := 0) hi)
  have g2 := hx _ (getD_mem (z := 0) hk)
  refine calls_of Try.func57 rfl Try.ntmps57 rfl ?_
  have H := Holds.start w
  refine wc_seq ?_
  refine wc_region ?_
  refine wl_v rfl rfl rfl (v_assign rfl) ?_
  refine wl_nil ?_
  refine wc_seq ?_
  refine wc_still mixed (by kernel_rfl) ?_
  have Hd := H.drew
  refine ws_v rfl rfl rfl (v_load one23 rfl (Hd.cell (h2 0 _ rfl))) ?_
  refine ws_v rfl rfl rfl (v_load one39 rfl (Hd.cell (h6 0 _ rfl))) ?_
  refine ws_v rfl rfl rfl (v_move rfl) ?_
  refine ws_v rfl rfl rfl (v_idx Try.underlying39 sz3 ho.ad rfl rfl (by omega) (by omega)) ?_
  refine ws_v rfl rfl rfl (v_load one3 rfl (Hd.cell (ho.at1N (i := i) (by omega)))) ?_
  refine ws_v rfl rfl rfl (v_idx Try.underlying23 sz39 hr.ad rfl rfl (by omega) (by omega)) ?_
  obtain ⟨B13, cp13, hc13, hl13, hr13⟩ := hr.atSl (i := (xs.getD i 0)) (by omega) (by omega)
  refine ws_v rfl rfl rfl (v_load one39 rfl (Hd.cell (hc13))) ?_
  refine ws_v rfl rfl rfl (v_len Try.underlying39 rfl) ?_
  refine ws_v rfl rfl rfl (v_load one23 rfl (Hd.cell (h2 0 _ rfl))) ?_
  refine ws_v rfl rfl rfl (v_load one39 rfl (Hd.cell (h6 0 _ rfl))) ?_
  refine ws_v rfl rfl rfl (v_move rfl) ?_
  refine ws_v rfl rfl rfl (v_idx Try.underlying39 sz3 ho.ad rfl rfl (by omega) (by omega)) ?_
  refine ws_v rfl rfl rfl (v_load one3 rfl (Hd.cell (ho.at1N (i := k) (by omega)))) ?_
  refine ws_v rfl rfl rfl (v_idx Try.underlying23 sz39 hr.ad rfl rfl (by omega) (by omega)) ?_
  obtain ⟨B21, cp21, hc21, hl21, hr21⟩ := hr.atSl (i := (xs.getD k 0)) (by omega) (by omega)
  refine ws_v rfl rfl rfl (v_load one39 rfl (Hd.cell (hc21))) ?_
  refine ws_v rfl rfl rfl (v_len Try.underlying39 rfl) ?_
  refine ws_v rfl rfl rfl (v_gtr rfl rfl) ?_
  refine ws_v rfl rfl rfl (v_assign rfl) ?_
  refine ws_nil ?_
  refine wc_ret ?_
  exact ⟨_, res1 rfl rfl, rfl, Hd⟩
end Go.Proofs.Ytkpehkadammppaa.Less

/-! What exchanges of places do. -/
namespace Go.Proofs.YtkpehkadammppaaFx
open Go
theorem swp_len (xs : List Int) (i j : Nat) : (swp xs i j).length = xs.length := by simp [swp]
theorem swp_get {xs : List Int} {i j : Nat} (hi : i < xs.length) (hj : j < xs.length) (q : Nat) : (swp xs i j).getD q 0 = if q = j then xs.getD i 0 else if q = i then xs.getD j 0 else xs.getD q 0 := by
  unfold swp
  rw [List.getD_eq_getElem?_getD, List.getElem?_set]
  by_cases h1 : j = q
  · rw [if_pos h1, if_pos h1.symm, if_pos (by rw [List.length_set]; exact hj)]
    rfl
  · rw [if_neg h1, if_neg (fun e => h1 e.symm), List.getElem?_set]
    by_cases h2 : i = q
    · rw [if_pos h2, if_pos h2.symm, if_pos hi]
      rfl
    · rw [if_neg h2, if_neg (fun e => h2 e.symm), ← List.getD_eq_getElem?_getD]
theorem swp_perm {xs : List Int} {i j : Nat} (hi : i < xs.length) (hj : j < xs.length) : (swp xs i j).Perm xs := by
  have e1 : xs.getD j 0 = xs[j] := by rw [List.getD_eq_getElem?_getD, List.getElem?_eq_getElem hj]; rfl
  have e2 : xs.getD i 0 = xs[i] := by rw [List.getD_eq_getElem?_getD, List.getElem?_eq_getElem hi]; rfl
  rw [swp, e1, e2]
  exact List.set_set_perm hi hj
def swR (xs : List Int) (a b : Nat) : Nat → List Int
  | 0 => xs
  | m + 1 => swp (swR xs a b m) (a + m) (b + m)
theorem swR_len (xs : List Int) (a b : Nat) : ∀ m, (swR xs a b m).length = xs.length
  | 0 => rfl
  | m + 1 => by rw [swR, swp_len, swR_len xs a b m]
theorem swR_perm {xs : List Int} {a b : Nat} : ∀ m, a + m ≤ xs.length → b + m ≤ xs.length → (swR xs a b m).Perm xs
  | 0, _, _ => .refl _
  | m + 1, h1, h2 => (swp_perm (by rw [swR_len]; omega) (by rw [swR_len]; omega)).trans (swR_perm m (by omega) (by omega))
theorem swR_get {xs : List Int} {a b : Nat} : ∀ m, a + m ≤ b → b + m ≤ xs.length → ∀ q, (swR xs a b m).getD q 0 = if a ≤ q ∧ q < a + m then xs.getD (q - a + b) 0 else if b ≤ q ∧ q < b + m then xs.getD (q - b + a) 0 else xs.getD q 0
  | 0, _, _, q => by rw [if_neg (by omega), if_neg (by omega)]; rfl
  | m + 1, h1, h2, q => by
    rw [swR, swp_get (by rw [swR_len]; omega) (by rw [swR_len]; omega)]
    by_cases e1 : q = b + m
    · subst e1
      rw [if_pos rfl, swR_get m (by omega) (by omega), if_neg (by omega), if_neg (by omega), if_neg (by omega), if_pos (by omega)]
      congr 1
      omega
    · rw [if_neg e1]
      by_cases e2 : q = a + m
      · subst e2
        rw [if_pos rfl, swR_get m (by omega) (by omega), if_neg (by omega), if_neg (by omega), if_pos (by omega)]
        congr 1
        omega
      · rw [if_neg e2, swR_get m (by omega) (by omega)]
        by_cases c1 : a ≤ q ∧ q < a + m
        · rw [if_pos c1, if_pos (by omega)]
        · rw [if_neg c1]
          by_cases c2 : b ≤ q ∧ q < b + m
          · rw [if_pos c2, if_neg (by omega), if_pos (by omega)]
          · rw [if_neg c2, if_neg (by omega), if_neg (by omega)]
/-- ys is xs, its stretch [a, m) behind its stretch [m, b). -/
structure IsRot (xs ys : List Int) (a m b : Nat) : Prop where
  perm : ys.Perm xs
  get : ∀ q, ys.getD q 0 = if a ≤ q ∧ q < a + (b - m) then xs.getD (q - a + m) 0 else if a + (b - m) ≤ q ∧ q < b then xs.getD (q - (b - m)) 0 else xs.getD q 0
theorem rotA {ys zs : List Int} {i j m : Nat} (hij : j < i) (him : i ≤ m) (hl : m + j ≤ ys.length) (h : IsRot (swR ys (m - i) m j) zs (m - i + j) m (m + j)) : IsRot ys zs (m - i) m (m + j) :=
  ⟨h.perm.trans (swR_perm j (by omega) (by omega)), fun q => by
    rw [h.get q]
    simp only [swR_get j (show m - i + j ≤ m by omega) hl]
    repeat' split
    all_goals first | (exfalso; omega) | (congr 1 <;> omega)⟩
theorem rotB {ys zs : List Int} {i j m : Nat} (hij : i < j) (him : i ≤ m) (hl : m + j ≤ ys.length) (h : IsRot (swR ys (m - i) (m + j - i) i) zs (m - i) m (m + (j - i))) : IsRot ys zs (m - i) m (m + j) :=
  ⟨h.perm.trans (swR_perm i (by omega) (by omega)), fun q => by
    rw [h.get q]
    simp only [swR_get i (show m - i + i ≤ m + j - i by omega) (show m + j - i + i ≤ ys.length by omega)]
    repeat' split
    all_goals first | (exfalso; omega) | (congr 1 <;> omega)⟩
theorem rotE {ys : List Int} {i m : Nat} (him : i ≤ m) (hl : m + i ≤ ys.length) : IsRot ys (swR ys (m - i) m i) (m - i) m (m + i) :=
  ⟨swR_perm i (by omega) (by omega), fun q => by
    rw [swR_get i (by omega) hl]
    repeat' split
    all_goals first | (exfalso; omega) | (congr 1 <;> omega)⟩
end Go.Proofs.YtkpehkadammppaaFx
/-! What sorting by places does: insertion. -/
namespace Go.Proofs.YtkpehkadammppaaFx
open Go
/-- The order: the longer first; of equals, the smaller number. -/
def Lt' (ln : Int → Nat) (x y : Int) : Prop := ln y < ln x ∨ (ln x = ln y ∧ x < y)
theorem Lt'.trans {ln : Int → Nat} {x y z : Int} (h1 : Lt' ln x y) (h2 : Lt' ln y z) : Lt' ln x z := by
  unfold Lt' at *
  omega
abbrev at0 (xs : List Int) (p : Nat) : Int := xs.getD p 0
def Sd (ln : Int → Nat) (xs : List Int) (a b : Nat) : Prop := ∀ p q, a ≤ p → p < q → q < b → Lt' ln (at0 xs p) (at0 xs q)
def Asc (xs : List Int) (a b : Nat) : Prop := ∀ p q, a ≤ p → p < q → q < b → at0 xs p < at0 xs q
/-- On [a, b) ys holds values of xs alone. -/
def Keep (xs ys : List Int) (a b : Nat) : Prop := ∀ P : Int → Prop, (∀ q, a ≤ q → q < b → P (at0 xs q)) → ∀ q, a ≤ q → q < b → P (at0 ys q)
theorem Keep.refl (xs : List Int) (a b : Nat) : Keep xs xs a b := fun _ h => h
theorem Keep.trans {xs ys zs : List Int} {a b : Nat} (h1 : Keep xs ys a b) (h2 : Keep ys zs a b) : Keep xs zs a b := fun P h => h2 P (h1 P h)
theorem Keep.sw {xs : List Int} {a b i j : Nat} (hi : i < xs.length) (hj : j < xs.length) (h1 : a ≤ i ∧ i < b) (h2 : a ≤ j ∧ j < b) : Keep xs (swp xs i j) a b := fun P h q hq1 hq2 => by
  show P ((swp xs i j).getD q 0)
  rw [swp_get hi hj]
  split
  · exact h i h1.1 h1.2
  · split
    · exact h j h2.1 h2.2
    · exact h q hq1 hq2
/-- The element at j moves down. -/
structure Ins (ln : Int → Nat) (xs ys : List Int) (a i j : Nat) : Prop where
  perm : ys.Perm xs
  out : ∀ q, q < a ∨ i < q → at0 ys q = at0 xs q
  lo : a ≤ j
  hi : j ≤ i
  pairs : ∀ p q, a ≤ p → p < q → q ≤ i → p ≠ j → q ≠ j → Lt' ln (at0 ys p) (at0 ys q)
  up : ∀ q, j < q → q ≤ i → Lt' ln (at0 ys j) (at0 ys q)
  idx : ∀ q, a ≤ q → q ≤ i → q ≠ j → at0 ys q < at0 ys j
  keep : Keep xs ys a (i + 1)
theorem Ins.step {ln : Int → Nat} {xs ys : List Int} {a i j : Nat} (h : Ins ln xs ys a i j) (hl : i < ys.length) (hj : a < j) (hlt : ln (at0 ys (j - 1)) < ln (at0 ys j)) : Ins ln xs (swp ys j (j - 1)) a i (j - 1) := by
  have hji := h.hi
  have g : ∀ q, at0 (swp ys j (j - 1)) q = if q = j - 1 then at0 ys j else if q = j then at0 ys (j - 1) else at0 ys q := fun q => swp_get (by omega) (by omega) q
  have g1 : at0 (swp ys j (j - 1)) (j - 1) = at0 ys j := by rw [g, if_pos rfl]
  have g2 : at0 (swp ys j (j - 1)) j = at0 ys (j - 1) := by rw [g, if_neg (by omega), if_pos rfl]
  have g3 : ∀ q, q ≠ j → q ≠ j - 1 → at0 (swp ys j (j - 1)) q = at0 ys q := fun q h1 h2 => by rw [g, if_neg h2, if_neg h1]
  refine ⟨(swp_perm (by omega) (by omega)).trans h.perm, fun q hq => by rw [g3 q (by omega) (by omega)]; exact h.out q hq, by omega, by omega, fun p q h1 h2 h3 h4 h5 => ?_, fun q h1 h2 => ?_, fun q h1 h2 h3 => ?_, h.keep.trans (Keep.sw (by omega) (by omega) (by omega) (by omega))⟩
  · rcases Nat.decEq p j with hp | hp
    · rcases Nat.decEq q j with hq | hq
      · rw [g3 p hp h4, g3 q hq h5]
        exact h.pairs p q h1 h2 h3 hp hq
      · subst hq
        rw [g3 p hp h4, g2]
        exact h.pairs p (q - 1) h1 (by omega) (by omega) hp (by omega)
    · subst hp
      rw [g2, g3 q (by omega) h5]
      exact h.pairs (p - 1) q (by omega) (by omega) h3 (by omega) (by omega)
  · rw [g1]
    rcases Nat.decEq q j with hq | hq
    · rw [g3 q hq (by omega)]
      exact h.up q (by omega) h2
    · subst hq
      rw [g2]
      exact .inl hlt
  · rw [g1]
    rcases Nat.decEq q j with hq | hq
    · rw [g3 q hq h3]
      exact h.idx q h1 h2 hq
    · subst hq
      rw [g2]
      exact h.idx (q - 1) (by omega) (by omega) (by omega)
theorem Ins.done {ln : Int → Nat} {xs ys : List Int} {a i j : Nat} (h : Ins ln xs ys a i j) (hs : j = a ∨ ¬ ln (at0 ys (j - 1)) < ln (at0 ys j)) : Sd ln ys a (i + 1) := fun p q h1 h2 h3 => by
  have hji := h.hi
  have hja := h.lo
  rcases Nat.decEq p j with hp | hp
  · rcases Nat.decEq q j with hq | hq
    · exact h.pairs p q h1 h2 (by omega) hp hq
    · subst hq
      have hs' := hs.resolve_left (by omega)
      have h4 := h.idx (q - 1) (by omega) (by omega) (by omega)
      have h5 : Lt' ln (at0 ys (q - 1)) (at0 ys q) := by unfold Lt'; omega
      rcases Nat.decEq p (q - 1) with hp2 | hp2
      · exact (h.pairs p (q - 1) h1 (by omega) (by omega) hp (by omega)).trans h5
      · rw [hp2]; exact h5
  · subst hp
    exact h.up q h2 (by omega)
theorem Ins.start {ln : Int → Nat} {xs : List Int} {a i : Nat} (hs : Sd ln xs a i) (ha : a ≤ i) (hx : ∀ q, a ≤ q → q < i → at0 xs q < at0 xs i) : Ins ln xs xs a i i :=
  ⟨.refl _, fun _ _ => rfl, ha, Nat.le_refl _, fun p q h1 h2 h3 h4 h5 => hs p q h1 h2 (by omega), fun q h1 h2 => by omega, fun q h1 h2 h3 => hx q h1 (by omega), Keep.refl _ _ _⟩
/-- ys is xs, sorted on [a, b). -/
structure Srtd (ln : Int → Nat) (xs ys : List Int) (a b : Nat) : Prop where
  perm : ys.Perm xs
  out : ∀ q, q < a ∨ b ≤ q → at0 ys q = at0 xs q
  sd : Sd ln ys a b
  keep : Keep xs ys a b
theorem Srtd.one (ln : Int → Nat) (xs : List Int) {a b : Nat} (h : b ≤ a + 1) : Srtd ln xs xs a b := ⟨.refl _, fun _ _ => rfl, fun p q h1 h2 h3 => by omega, Keep.refl _ _ _⟩
theorem Srtd.ins {ln : Int → Nat} {xs ys : List Int} {a i b : Nat} (h : Srtd ln xs ys a i) (hai : a ≤ i) (hi : i < b) (hasc : Asc xs a b) : Ins ln ys ys a i i :=
  Ins.start h.sd hai fun q h1 h2 => by
    rw [h.out i (.inr (Nat.le_refl _))]
    exact h.keep (fun z => z < at0 xs i) (fun q h1 h2 => hasc q i h1 h2 hi) q h1 h2
theorem Srtd.next {ln : Int → Nat} {xs ys zs : List Int} {a i j : Nat} (h : Srtd ln xs ys a i) (hi : Ins ln ys zs a i j) (hs : j = a ∨ ¬ ln (at0 zs (j - 1)) < ln (at0 zs j)) : Srtd ln xs zs a (i + 1) :=
  ⟨hi.perm.trans h.perm, fun q hq => by rw [hi.out q (by omega), h.out q (by omega)], hi.done hs, Keep.trans (fun P hP q h1 h2 => by
    rcases Nat.decEq q i with hq | hq
    · exact h.keep P (fun q h1 h2 => hP q h1 (by omega)) q h1 (by omega)
    · subst hq
      rw [h.out q (.inr (Nat.le_refl _))]
      exact hP q h1 h2) hi.keep⟩
def lnR (rows : List (List Int)) (x : Int) : Nat := (rows.getD x.toNat []).length
end Go.Proofs.YtkpehkadammppaaFx
/-! What sorting by places does: merging. -/
namespace Go.Proofs.YtkpehkadammppaaFx
open Go
/-- Two stretches to be merged. -/
structure Two (ln : Int → Nat) (xs : List Int) (a m b : Nat) : Prop where
  l : Sd ln xs a m
  r : Sd ln xs m b
  lt : ∀ p q, a ≤ p → p < m → m ≤ q → q < b → at0 xs p < at0 xs q
/-- The halves are sorted apart, and all of the one comes before all of the other. -/
theorem Sd.glue {ln : Int → Nat} {xs : List Int} {a m b : Nat} (h1 : Sd ln xs a m) (h2 : Sd ln xs m b) (h : ∀ p q, a ≤ p → p < m → m ≤ q → q < b → Lt' ln (at0 xs p) (at0 xs q)) : Sd ln xs a b := fun p q e1 e2 e3 => by
  rcases Nat.lt_or_ge q m with hq | hq
  · exact h1 p q e1 e2 hq
  · rcases Nat.lt_or_ge p m with hp | hp
    · exact h p q e1 hp hq e3
    · exact h2 p q hp e2 e3
/-- Two values that keep to their stretches keep what is so of all pairs. -/
theorem Keep.pairs {xs ys : List Int} {a m b : Nat} {R : Int → Int → Prop} (h1 : Keep xs ys a m) (h2 : Keep xs ys m b) (h : ∀ p q, a ≤ p → p < m → m ≤ q → q < b → R (at0 xs p) (at0 xs q)) : ∀ p q, a ≤ p → p < m → m ≤ q → q < b → R (at0 ys p) (at0 ys q) := fun p q e1 e2 e3 e4 =>
  h1 (fun x => R x (at0 ys q)) (fun p e1 e2 => h2 (fun y => R (at0 xs p) y) (fun q e3 e4 => h p q e1 e2 e3 e4) q e3 e4) p e1 e2
theorem Keep.out {xs ys : List Int} {a b : Nat} (h : ∀ q, a ≤ q → q < b → at0 ys q = at0 xs q) : Keep xs ys a b := fun P hP q e1 e2 => by rw [h q e1 e2]; exact hP q e1 e2
/-- Behind the rotation: two pairs of stretches, all of the first before all of the second. -/
theorem rot_two {ln : Int → Nat} {xs ys : List Int} {a s m e b d : Nat} (h : Two ln xs a m b) (hr : IsRot xs ys s m e) (h1 : a ≤ s) (h2 : s ≤ m) (h3 : m ≤ e) (h4 : e ≤ b) (hd : d = s + (e - m))
    (hA : ∀ p q, a ≤ p → p < s → e ≤ q → q < b → Lt' ln (at0 xs p) (at0 xs q)) (hB : ∀ p q, m ≤ p → p < e → s ≤ q → q < m → Lt' ln (at0 xs p) (at0 xs q)) :
    Two ln ys a s d ∧ Two ln ys d e b ∧ ∀ p q, a ≤ p → p < d → d ≤ q → q < b → Lt' ln (at0 ys p) (at0 ys q) := by
  subst hd
  have g1 : ∀ q, q < s → at0 ys q = at0 xs q := fun q hq => by
    show ys.getD q 0 = _
    rw [hr.get, if_neg (by omega), if_neg (by omega)]
  have g2 : ∀ q, s ≤ q → q < s + (e - m) → at0 ys q = at0 xs (q - s + m) := fun q e1 e2 => by
    show ys.getD q 0 = _
    rw [hr.get, if_pos ⟨e1, e2⟩]
  have g3 : ∀ q, s + (e - m) ≤ q → q < e → at0 ys q = at0 xs (q - (e - m)) := fun q e1 e2 => by
    show ys.getD q 0 = _
    rw [hr.get, if_neg (by omega), if_pos ⟨e1, e2⟩]
  have g4 : ∀ q, e ≤ q → at0 ys q = at0 xs q := fun q hq => by
    show ys.getD q 0 = _
    rw [hr.get, if_neg (by omega), if_neg (by omega)]
  refine ⟨⟨fun p q c1 c2 c3 => ?_, fun p q c1 c2 c3 => ?_, fun p q c1 c2 c3 c4 => ?_⟩, ⟨fun p q c1 c2 c3 => ?_, fun p q c1 c2 c3 => ?_, fun p q c1 c2 c3 c4 => ?_⟩, fun p q c1 c2 c3 c4 => ?_⟩
  · rw [g1 p (by omega), g1 q (by omega)]; exact h.l p q c1 c2 (by omega)
  · rw [g2 p c1 (by omega), g2 q (by omega) c3]; exact h.r _ _ (by omega) (by omega) (by omega)
  · rw [g1 p c2, g2 q c3 c4]; exact h.lt _ _ c1 (by omega) (by omega) (by omega)
  · rw [g3 p c1 (by omega), g3 q (by omega) c3]; exact h.l _ _ (by omega) (by omega) (by omega)
  · rw [g4 p c1, g4 q (by omega)]; exact h.r _ _ (by omega) c2 c3
  · rw [g3 p c1 c2, g4 q c3]; exact h.lt _ _ (by omega) (by omega) (by omega) c4
  · rcases Nat.lt_or_ge p s with hp | hp
    · rw [g1 p hp]
      rcases Nat.lt_or_ge q e with hq | hq
      · rw [g3 q c3 hq]; exact h.l _ _ c1 (by omega) (by omega)
      · rw [g4 q hq]; exact hA _ _ c1 hp hq c4
    · rw [g2 p hp c2]
      rcases Nat.lt_or_ge q e with hq | hq
      · rw [g3 q c3 hq]; exact hB _ _ (by omega) (by omega) (by omega) (by omega)
      · rw [g4 q hq]; exact h.r _ _ (by omega) (by omega) c4
/-- The element at a goes up k places. -/
def mvU (xs : List Int) (a : Nat) : Nat → List Int
  | 0 => xs
  | k + 1 => swp (mvU xs a k) (a + k) (a + k + 1)
theorem mvU_len (xs : List Int) (a : Nat) : ∀ k, (mvU xs a k).length = xs.length
  | 0 => rfl
  | k + 1 => by rw [mvU, swp_len, mvU_len xs a k]
theorem mvU_perm {xs : List Int} {a : Nat} : ∀ k, a + k < xs.length → (mvU xs a k).Perm xs
  | 0, _ => .refl _
  | k + 1, h => (swp_perm (by rw [mvU_len]; omega) (by rw [mvU_len]; omega)).trans (mvU_perm k (by omega))
theorem mvU_get {xs : List Int} {a : Nat} : ∀ k, a + k < xs.length → ∀ q, at0 (mvU xs a k) q = if a ≤ q ∧ q < a + k then at0 xs (q + 1) else if q = a + k then at0 xs a else at0 xs q
  | 0, _, q => by
    rw [if_neg (by omega)]
    by_cases h : q = a
    · subst h; rw [if_pos (by omega)]; rfl
    · rw [if_neg (by omega)]; rfl
  | k + 1, h, q => by
    show (swp (mvU xs a k) (a + k) (a + k + 1)).getD q 0 = _
    rw [swp_get (by rw [mvU_len]; omega) (by rw [mvU_len]; omega)]
    have ih := mvU_get k (by omega : a + k < xs.length)
    by_cases h1 : q = a + k + 1
    · rw [if_pos h1, if_neg (by omega), if_pos (by omega)]
      have := ih (a + k)
      rw [if_neg (by omega), if_pos rfl] at this
      exact this
    · rw [if_neg h1]
      by_cases h2 : q = a + k
      · subst h2
        rw [if_pos rfl, if_pos (by omega)]
        have := ih (a + k + 1)
        rw [if_neg (by omega), if_neg (by omega)] at this
        exact this
      · rw [if_neg h2]
        have := ih q
        rw [show (mvU xs a k).getD q 0 = at0 (mvU xs a k) q from rfl, this]
        by_cases h3 : a ≤ q ∧ q < a + k
        · rw [if_pos h3, if_pos (by omega)]
        · rw [if_neg h3, if_neg h2, if_neg (by omega), if_neg (by omega)]
/-- The element at m goes down k places. -/
def mvD (xs : List Int) (m : Nat) : Nat → List Int
  | 0 => xs
  | k + 1 => swp (mvD xs m k) (m - k) (m - k - 1)
theorem mvD_len (xs : List Int) (m : Nat) : ∀ k, (mvD xs m k).length = xs.length
  | 0 => rfl
  | k + 1 => by rw [mvD, swp_len, mvD_len xs m k]
theorem mvD_perm {xs : List Int} {m : Nat} (hm : m < xs.length) : ∀ k, k ≤ m → (mvD xs m k).Perm xs
  | 0, _ => .refl _
  | k + 1, h => (swp_perm (by rw [mvD_len]; omega) (by rw [mvD_len]; omega)).trans (mvD_perm hm k (by omega))
theorem mvD_get {xs : List Int} {m : Nat} (hm : m < xs.length) : ∀ k, k ≤ m → ∀ q, at0 (mvD xs m k) q = if m - k < q ∧ q ≤ m then at0 xs (q - 1) else if q = m - k then at0 xs m else at0 xs q
  | 0, _, q => by
    rw [if_neg (by omega)]
    by_cases h : q = m
    · subst h; rw [if_pos (by omega)]; rfl
    · rw [if_neg (by omega)]; rfl
  | k + 1, h, q => by
    show (swp (mvD xs m k) (m - k) (m - k - 1)).getD q 0 = _
    rw [swp_get (by rw [mvD_len]; omega) (by rw [mvD_len]; omega)]
    have ih := mvD_get hm k (by omega)
    by_cases h1 : q = m - k - 1
    · rw [if_pos h1, if_neg (by omega), if_pos (by omega)]
      have := ih (m - k)
      rw [if_neg (by omega), if_pos rfl] at this
      exact this
    · rw [if_neg h1]
      by_cases h2 : q = m - k
      · rw [if_pos h2, if_pos (by omega)]
        have := ih (m - k - 1)
        rw [if_neg (by omega), if_neg (by omega)] at this
        rw [h2]
        exact this
      · rw [if_neg h2]
        have := ih q
        rw [show (mvD xs m k).getD q 0 = at0 (mvD xs m k) q from rfl, this]
        by_cases h3 : m - k < q ∧ q ≤ m
        · rw [if_pos h3, if_pos (by omega)]
        · rw [if_neg h3, if_neg h2, if_neg (by omega), if_neg (by omega)]
end Go.Proofs.YtkpehkadammppaaFx
/-! What sorting by places does: one element put into its place. -/
namespace Go.Proofs.YtkpehkadammppaaFx
open Go
theorem baseU {ln : Int → Nat} {xs : List Int} {a b k : Nat} (h : Two ln xs a (a + 1) b) (hk : a + k < b) (hb : b ≤ xs.length) (h1 : ∀ q, a + 1 ≤ q → q ≤ a + k → ln (at0 xs a) < ln (at0 xs q)) (h2 : ∀ q, a + k < q → q < b → ¬ ln (at0 xs a) < ln (at0 xs q)) : Srtd ln xs (mvU xs a k) a b := by
  have g := mvU_get (xs := xs) (a := a) k (by omega)
  have g1 : ∀ q, a ≤ q → q < a + k → at0 (mvU xs a k) q = at0 xs (q + 1) := fun q e1 e2 => by rw [g, if_pos ⟨e1, e2⟩]
  have g2 : at0 (mvU xs a k) (a + k) = at0 xs a := by rw [g, if_neg (by omega), if_pos rfl]
  have g3 : ∀ q, q < a ∨ a + k < q → at0 (mvU xs a k) q = at0 xs q := fun q e => by rw [g, if_neg (by omega), if_neg (by omega)]
  refine ⟨mvU_perm k (by omega), fun q hq => g3 q (by omega), fun p q e1 e2 e3 => ?_, fun P hP q e1 e2 => ?_⟩
  · rcases Nat.lt_or_ge p (a + k) with hp | hp
    · rw [g1 p e1 hp]
      rcases Nat.lt_or_ge q (a + k) with hq | hq
      · rw [g1 q (by omega) hq]; exact h.r _ _ (by omega) (by omega) (by omega)
      · rcases Nat.decEq q (a + k) with hq2 | hq2
        · rw [g3 q (.inr (by omega))]; exact h.r _ _ (by omega) (by omega) (by omega)
        · rw [hq2, g2]; exact .inl (h1 _ (by omega) (by omega))
    · rcases Nat.decEq p (a + k) with hp2 | hp2
      · rw [g3 p (.inr (by omega)), g3 q (.inr (by omega))]; exact h.r _ _ (by omega) e2 e3
      · rw [hp2, g2, g3 q (.inr (by omega))]
        have e4 := h2 q (by omega) e3
        have e5 := h.lt a q (Nat.le_refl _) (by omega) (by omega) e3
        unfold Lt'
        omega
  · rcases Nat.lt_or_ge q (a + k) with hq | hq
    · rw [g1 q e1 hq]; exact hP _ (by omega) (by omega)
    · rcases Nat.decEq q (a + k) with hq2 | hq2
      · rw [g3 q (.inr (by omega))]; exact hP _ e1 e2
      · rw [hq2, g2]; exact hP _ (Nat.le_refl _) (by omega)
theorem baseD {ln : Int → Nat} {xs : List Int} {a m k : Nat} (h : Two ln xs a m (m + 1)) (hk : a + k ≤ m) (hb : m < xs.length) (h1 : ∀ q, m - k ≤ q → q < m → ln (at0 xs q) < ln (at0 xs m)) (h2 : ∀ q, a ≤ q → q < m - k → ¬ ln (at0 xs q) < ln (at0 xs m)) : Srtd ln xs (mvD xs m k) a (m + 1) := by
  have g := mvD_get hb k (by omega)
  have g1 : ∀ q, m - k < q → q ≤ m → at0 (mvD xs m k) q = at0 xs (q - 1) := fun q e1 e2 => by rw [g, if_pos ⟨e1, e2⟩]
  have g2 : at0 (mvD xs m k) (m - k) = at0 xs m := by rw [g, if_neg (by omega), if_pos rfl]
  have g3 : ∀ q, q < m - k ∨ m < q → at0 (mvD xs m k) q = at0 xs q := fun q e => by rw [g, if_neg (by omega), if_neg (by omega)]
  refine ⟨mvD_perm hb k (by omega), fun q hq => g3 q (by omega), fun p q e1 e2 e3 => ?_, fun P hP q e1 e2 => ?_⟩
  · rcases Nat.lt_or_ge p (m - k) with hp | hp
    · rw [g3 p (.inl hp)]
      rcases Nat.lt_or_ge q (m - k) with hq | hq
      · rw [g3 q (.inl hq)]; exact h.l _ _ e1 e2 (by omega)
      · rcases Nat.decEq q (m - k) with hq2 | hq2
        · rw [g1 q (by omega) (by omega)]; exact h.l _ _ e1 (by omega) (by omega)
        · rw [hq2, g2]
          have e4 := h2 p e1 hp
          have e5 := h.lt p m e1 (by omega) (Nat.le_refl _) (by omega)
          unfold Lt'
          omega
    · rcases Nat.decEq p (m - k) with hp2 | hp2
      · rw [g1 p (by omega) (by omega), g1 q (by omega) (by omega)]; exact h.l _ _ (by omega) (by omega) (by omega)
      · rw [hp2, g2, g1 q (by omega) (by omega)]; exact .inl (h1 _ (by omega) (by omega))
  · rcases Nat.lt_or_ge q (m - k) with hq | hq
    · rw [g3 q (.inl hq)]; exact hP _ e1 (by omega)
    · rcases Nat.decEq q (m - k) with hq2 | hq2
      · rw [g1 q (by omega) (by omega)]; exact hP _ (by omega) (by omega)
      · rw [hq2, g2]; exact hP _ (by omega) (by omega)
end Go.Proofs.YtkpehkadammppaaFx
/-! What sorting by places does: the merge. -/
namespace Go.Proofs.YtkpehkadammppaaFx
open Go
theorem Sd.ge {ln : Int → Nat} {xs : List Int} {a b p q : Nat} (h : Sd ln xs a b) (h1 : a ≤ p) (h2 : p ≤ q) (h3 : q < b) : ln (at0 xs q) ≤ ln (at0 xs p) := by
  rcases Nat.lt_or_eq_of_le h2 with h4 | rfl
  · have := h p q h1 h4 h3
    unfold Lt' at this
    omega
  · exact Nat.le_refl _
theorem isRot_triv {xs : List Int} {s m e : Nat} (h : s = m ∨ e = m) (h1 : s ≤ m) (h2 : m ≤ e) : IsRot xs xs s m e :=
  ⟨.refl _, fun q => by
    split
    · congr 1
      omega
    · split
      · congr 1
        omega
      · rfl⟩
/-- Where the search ends. -/
structure Fnd (ln : Int → Nat) (xs : List Int) (a m b d s : Nat) : Prop where
  mid : d = (a + b) / 2
  lo : a ≤ s
  hi : s ≤ m
  elo : m ≤ d + m - s
  ehi : d + m - s ≤ b
  below : (s = a ∨ d + m - s = b) ∨ ¬ ln (at0 xs (s - 1)) < ln (at0 xs (d + m - s))
  above : (s = m ∨ d + m - s = m) ∨ ln (at0 xs s) < ln (at0 xs (d + m - s - 1))
theorem Fnd.rot {ln : Int → Nat} {xs ys : List Int} {a m b d s : Nat} (h : Two ln xs a m b) (f : Fnd ln xs a m b d s) (hr : IsRot xs ys s m (d + m - s)) :
    Two ln ys a s d ∧ Two ln ys d (d + m - s) b ∧ ∀ p q, a ≤ p → p < d → d ≤ q → q < b → Lt' ln (at0 ys p) (at0 ys q) := by
  have f1 := f.lo
  have f2 := f.hi
  have f3 := f.elo
  have f4 := f.ehi
  refine rot_two h hr f1 f2 f3 f4 (by omega) (fun p q e1 e2 e3 e4 => ?_) (fun p q e1 e2 e3 e4 => ?_)
  · have h5 := f.below.resolve_left (by omega)
    have h6 := h.l.ge (p := p) (q := s - 1) e1 (by omega) (by omega)
    have h7 := h.r.ge (p := d + m - s) (q := q) f3 e3 e4
    have h8 := h.lt p q e1 (by omega) (by omega) e4
    unfold Lt'
    omega
  · have h5 := f.above.resolve_left (by omega)
    have h6 := h.r.ge (p := p) (q := d + m - s - 1) e1 (by omega) (by omega)
    have h7 := h.l.ge (p := s) (q := q) f1 e3 e4
    exact .inl (by omega)
theorem Two.triv {ln : Int → Nat} {xs : List Int} {a m b : Nat} (h : Two ln xs a m b) (hc : m ≤ a ∨ b ≤ m) : Srtd ln xs xs a b :=
  ⟨.refl _, fun _ _ => rfl, fun p q e1 e2 e3 => by
    rcases hc with hc | hc
    · exact h.r p q (by omega) e2 e3
    · exact h.l p q e1 e2 (by omega), Keep.refl _ _ _⟩
theorem Two.same {ln : Int → Nat} {xs ys : List Int} {a m b : Nat} (h : Two ln xs a m b) (he : ∀ q, a ≤ q → at0 ys q = at0 xs q) (ham : a ≤ m) : Two ln ys a m b :=
  ⟨fun p q e1 e2 e3 => by rw [he p e1, he q (by omega)]; exact h.l p q e1 e2 e3, fun p q e1 e2 e3 => by rw [he p (by omega), he q (by omega)]; exact h.r p q e1 e2 e3, fun p q e1 e2 e3 e4 => by rw [he p e1, he q (by omega)]; exact h.lt p q e1 e2 e3 e4⟩
theorem IsRot.keep {xs ys : List Int} {a s m e b : Nat} (h : IsRot xs ys s m e) (h1 : a ≤ s) (h2 : s ≤ m) (h3 : m ≤ e) (h4 : e ≤ b) : Keep xs ys a b := fun P hP q e1 e2 => by
  show P (ys.getD q 0)
  rw [h.get]
  split
  · exact hP _ (by omega) (by omega)
  · split
    · exact hP _ (by omega) (by omega)
    · exact hP _ e1 e2
theorem merged {ln : Int → Nat} {xs ys zs us : List Int} {a m b d s : Nat} (f : Fnd ln xs a m b d s) (hr : IsRot xs ys s m (d + m - s)) (had : a ≤ d) (hdb : d ≤ b)
    (hc : ∀ p q, a ≤ p → p < d → d ≤ q → q < b → Lt' ln (at0 ys p) (at0 ys q)) (h1 : Srtd ln ys zs a d) (h2 : Srtd ln zs us d b) : Srtd ln xs us a b := by
  have f1 := f.lo
  have f2 := f.hi
  have f3 := f.elo
  have f4 := f.ehi
  have k1 : Keep ys us a d := h1.keep.trans (Keep.out fun q e1 e2 => h2.out q (.inl e2))
  have k2 : Keep ys us d b := (Keep.out fun q e1 e2 => h1.out q (.inr e1)).trans h2.keep
  refine ⟨(h2.perm.trans h1.perm).trans hr.perm, fun q hq => ?_, Sd.glue (m := d) (fun p q e1 e2 e3 => ?_) h2.sd (Keep.pairs k1 k2 hc), (hr.keep f1 f2 f3 f4).trans fun P hP q e1 e2 => ?_⟩
  · rw [h2.out q (by omega), h1.out q (by omega)]
    show ys.getD q 0 = _
    rw [hr.get, if_neg (by omega), if_neg (by omega)]
  · rw [h2.out p (by omega), h2.out q (by omega)]
    exact h1.sd p q e1 e2 e3
  · rcases Nat.lt_or_ge q d with hq | hq
    · exact k1 P (fun q e1 e2 => hP q e1 (by omega)) q e1 hq
    · exact k2 P (fun q e1 e2 => hP q (by omega) e2) q hq e2
end Go.Proofs.YtkpehkadammppaaFx
/-! What sorting by places does: passes over blocks. -/
namespace Go.Proofs.YtkpehkadammppaaFx
open Go
theorem Sd.same {ln : Int → Nat} {xs ys : List Int} {a b : Nat} (h : Sd ln xs a b) (he : ∀ q, a ≤ q → q < b → at0 ys q = at0 xs q) : Sd ln ys a b := fun p q e1 e2 e3 => by
  rw [he p e1 (by omega), he q (by omega) e3]
  exact h p q e1 e2 e3
theorem Keep.same {xs ys zs : List Int} {a b : Nat} (h : Keep xs ys a b) (he : ∀ q, a ≤ q → q < b → at0 zs q = at0 ys q) : Keep xs zs a b := h.trans (Keep.out he)
theorem Keep.join {xs ys : List Int} {a m b : Nat} (h1 : Keep xs ys a m) (h2 : Keep xs ys m b) (hmb : m ≤ b) (ham : a ≤ m) : Keep xs ys a b := fun P hP q e1 e2 => by
  rcases Nat.lt_or_ge q m with hq | hq
  · exact h1 P (fun q e1 e2 => hP q e1 (by omega)) q e1 hq
  · exact h2 P (fun q e1 e2 => hP q (by omega) e2) q hq e2
/-- Sorted by blocks of k. -/
structure Runs (ln : Int → Nat) (xs ys : List Int) (k N : Nat) : Prop where
  perm : ys.Perm xs
  sd : ∀ i, Sd ln ys (i * k) (min (i * k + k) N)
  keep : ∀ i, Keep xs ys (i * k) (min (i * k + k) N)
/-- The blocks below a are done. -/
structure Pass (ln : Int → Nat) (xs ys0 ys : List Int) (K a : Nat) : Prop where
  perm : ys.Perm xs
  mul : ∃ c, a = c * K
  sd : ∀ i, i * K + K ≤ a → Sd ln ys (i * K) (i * K + K)
  keep : ∀ i, i * K + K ≤ a → Keep xs ys (i * K) (i * K + K)
  out : ∀ q, a ≤ q → at0 ys q = at0 ys0 q
theorem Pass.start {ln : Int → Nat} {xs ys : List Int} {K : Nat} (hK : 0 < K) (h : ys.Perm xs) : Pass ln xs ys ys K 0 :=
  ⟨h, ⟨0, by omega⟩, fun i hi => by omega, fun i hi => by omega, fun _ _ => rfl⟩
theorem mul_cases {K a c i : Nat} (ha : a = c * K) (hi : ¬ i * K + K ≤ a) (hi2 : i * K < a + K) : i * K = a := by
  subst ha
  have h1 : ¬ i < c := fun h => hi (by have := Nat.mul_le_mul_right K (show i + 1 ≤ c from h); rw [Nat.succ_mul] at this; exact this)
  have h2 : ¬ c < i := fun h => by have := Nat.mul_le_mul_right K (show c + 1 ≤ i from h); rw [Nat.succ_mul] at this; omega
  rw [show i = c by omega]
theorem Pass.next {ln : Int → Nat} {xs ys0 ys zs : List Int} {K a : Nat} (h : Pass ln xs ys0 ys K a) (hK : 0 < K) (hs : Srtd ln ys zs a (a + K)) (hk : Keep xs ys a (a + K)) : Pass ln xs ys0 zs K (a + K) := by
  obtain ⟨c, hc⟩ := h.mul
  refine ⟨hs.perm.trans h.perm, ⟨c + 1, by rw [Nat.succ_mul, hc]⟩, fun i hi => ?_, fun i hi => ?_, fun q hq => by rw [hs.out q (.inr hq), h.out q (by omega)]⟩
  · rcases Nat.lt_or_ge a (i * K + K) with h1 | h1
    · rw [mul_cases hc (by omega) (by omega)]; exact hs.sd
    · exact (h.sd i h1).same fun q e1 e2 => hs.out q (.inl (by omega))
  · rcases Nat.lt_or_ge a (i * K + K) with h1 | h1
    · rw [mul_cases hc (by omega) (by omega)]; exact hk.trans hs.keep
    · exact (h.keep i h1).same fun q e1 e2 => hs.out q (.inl (by omega))
theorem Pass.done {ln : Int → Nat} {xs ys0 ys zs : List Int} {K a N : Nat} (h : Pass ln xs ys0 ys K a) (hs : Srtd ln ys zs a N) (hk : Keep xs ys a N) (haN : a ≤ N) (hN : N < a + K) : Runs ln xs zs K N := by
  obtain ⟨c, hc⟩ := h.mul
  refine ⟨hs.perm.trans h.perm, fun i => ?_, fun i => ?_⟩
  · rcases Nat.lt_or_ge a (i * K + K) with h1 | h1
    · rcases Nat.lt_or_ge (i * K) N with h2 | h2
      · rw [mul_cases hc (by omega) (by omega), Nat.min_eq_right (by omega)]; exact hs.sd
      · intro p q e1 e2 e3; omega
    · rw [Nat.min_eq_left (by omega)]; exact (h.sd i h1).same fun q e1 e2 => hs.out q (.inl (by omega))
  · rcases Nat.lt_or_ge a (i * K + K) with h1 | h1
    · rcases Nat.lt_or_ge (i * K) N with h2 | h2
      · rw [mul_cases hc (by omega) (by omega), Nat.min_eq_right (by omega)]; exact hk.trans hs.keep
      · intro P _ q e1 e2; omega
    · rw [Nat.min_eq_left (by omega)]; exact (h.keep i h1).same fun q e1 e2 => hs.out q (.inl (by omega))
/-- Two blocks are two stretches to be merged. -/
theorem Pass.two {ln : Int → Nat} {xs ys0 ys : List Int} {k a b N : Nat} (h : Pass ln xs ys0 ys (2 * k) a) (hr : Runs ln xs ys0 k N) (hasc : Asc xs 0 N) (hm : a + k ≤ N) (hb : b = min (a + 2 * k) N) : Two ln ys a (a + k) b ∧ Keep xs ys a b := by
  obtain ⟨c, hc⟩ := h.mul
  have e1 : (2 * c) * k = a := by rw [hc, Nat.mul_comm 2 c, Nat.mul_assoc]
  have e2 : (2 * c + 1) * k = a + k := by rw [Nat.succ_mul, e1]
  have l1 := hr.sd (2 * c)
  have l2 := hr.sd (2 * c + 1)
  have k1 := hr.keep (2 * c)
  have k2 := hr.keep (2 * c + 1)
  rw [e1, Nat.min_eq_left hm] at l1 k1
  rw [e2, show a + k + k = a + 2 * k by omega, ← hb] at l2 k2
  have o : ∀ q, a ≤ q → at0 ys q = at0 ys0 q := h.out
  have k1' := k1.same fun q e1 _ => o q e1
  have k2' := k2.same fun q e1 _ => o q (by omega)
  exact ⟨⟨l1.same fun q e1 _ => o q e1, l2.same fun q e1 _ => o q (by omega), Keep.pairs (R := fun x y => x < y) k1' k2' fun p q e1 e2 e3 e4 => hasc p q (Nat.zero_le _) (by omega) (by omega)⟩, Keep.join k1' k2' (by omega) (by omega)⟩
/-- One block is left. -/
theorem Pass.one {ln : Int → Nat} {xs ys0 ys : List Int} {k a N : Nat} (h : Pass ln xs ys0 ys (2 * k) a) (hr : Runs ln xs ys0 k N) (haN : a ≤ N) (hm : N ≤ a + k) : Srtd ln ys ys a N ∧ Keep xs ys a N := by
  obtain ⟨c, hc⟩ := h.mul
  have e1 : (2 * c) * k = a := by rw [hc, Nat.mul_comm 2 c, Nat.mul_assoc]
  have l1 := hr.sd (2 * c)
  have k1 := hr.keep (2 * c)
  rw [e1, Nat.min_eq_right hm] at l1 k1
  exact ⟨⟨.refl _, fun _ _ => rfl, l1.same fun q e1 _ => h.out q e1, Keep.refl _ _ _⟩, k1.same fun q e1 _ => h.out q e1⟩
theorem Pass.asc {ln : Int → Nat} {xs ys : List Int} {K a N : Nat} (h : Pass ln xs xs ys K a) (hasc : Asc xs 0 N) : Asc ys a N := fun p q e1 e2 e3 => by
  rw [h.out p e1, h.out q (by omega)]
  exact hasc p q (Nat.zero_le _) e2 e3
theorem Pass.keeps {ln : Int → Nat} {xs ys : List Int} {K a N : Nat} (h : Pass ln xs xs ys K a) : Keep xs ys a N := Keep.out fun q e1 _ => h.out q e1
theorem Asc.cut {xs : List Int} {a b N : Nat} (h : Asc xs a N) (hb : b ≤ N) : Asc xs a b := fun p q e1 e2 e3 => h p q e1 e2 (by omega)
theorem Runs.all {ln : Int → Nat} {xs ys : List Int} {k N : Nat} (h : Runs ln xs ys k N) (hk : N ≤ k) : Sd ln ys 0 N := by
  have := h.sd 0
  rwa [Nat.zero_mul, Nat.zero_add, Nat.min_eq_right hk] at this
end Go.Proofs.YtkpehkadammppaaFx
