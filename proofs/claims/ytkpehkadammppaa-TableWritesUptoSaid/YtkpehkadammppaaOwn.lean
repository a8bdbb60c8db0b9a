/- Rows of the call's own: read, stored into, made; calls without a body. -/
import Derived.Test.YtkpehkadammppaaLst
import Derived.Laws.MakeOwn
set_option linter.unusedVariables false
namespace Go.Proofs.YtkpehkadammppaaFx
open Go Go.RowKit
section
variable {α : Type} {f : Fk α} {w w' W0 : World} {A : Option Addr} {xs : List α} {L L' : List Ch} {e n c : Nat} {v : Value}
theorem Holds.rrd (H : Holds W0 L w) (U : Upd L (Row f e (.slice A n c) xs) (Row f e (.slice A n c) xs) L) : Rd f.kn w A xs := (rd_of_own (H.raw U)).2.2
theorem Holds.rlen (H : Holds W0 L w) (U : Upd L (Row f e (.slice A n c) xs) (Row f e (.slice A n c) xs) L) : n = xs.length := (rd_of_own (H.raw U)).1
theorem Holds.rcap (H : Holds W0 L w) (U : Upd L (Row f e (.slice A n c) xs) (Row f e (.slice A n c) xs) L) : xs.length ≤ c := (rd_of_own (H.raw U)).2.1
theorem Holds.rmax (H : Holds W0 L w) (U : Upd L (Row f e v xs) (Row f e v xs) L) : xs.length ≤ maxLen := own_max (H.raw U)
/-- A row's value is a slice. -/
theorem Holds.rform (H : Holds W0 L w) (U : Upd L (Row f e v xs) (Row f e v xs) L) : ∃ A c, v = .slice A xs.length c := by
  obtain ⟨A, c, h, _, _⟩ := H.row U
  exact ⟨A, c, h⟩
theorem put_splice : ∀ (cs : List Value) (off : Nat) (vs : List Value), off + vs.length ≤ cs.length → Put cs off vs (cs.take off ++ vs ++ cs.drop (off + vs.length))
  | cs, 0, [], _ => by simpa using Put.nil cs
  | [], 0, v :: vs, h => by simp at h
  | c :: cs, 0, v :: vs, h => by
    have := put_splice cs 0 vs (by simp at h ⊢; omega)
    simp only [List.take_zero, List.nil_append, Nat.zero_add] at this ⊢
    rw [List.length_cons, List.drop_succ_cons]
    exact .here v this
  | [], off + 1, vs, h => by simp at h
  | c :: cs, off + 1, vs, h => by
    have := put_splice cs off vs (by simp at h; omega)
    rw [List.take_succ_cons, show off + 1 + vs.length = (off + vs.length) + 1 by omega, List.drop_succ_cons]
    exact .there this
theorem flat_splice (f : Fk α) : ∀ (xs : List α) (j : Nat) (x : α), j < xs.length → (xs.flatMap f.enc).take (j * f.sz) ++ f.enc x ++ (xs.flatMap f.enc).drop (j * f.sz + f.sz) = (xs.set j x).flatMap f.enc
  | [], j, x, h => by simp at h
  | y :: r, 0, x, _ => by
    have h := f.len y
    rw [List.flatMap_cons, List.set_cons_zero, List.flatMap_cons, Nat.zero_mul, List.take_zero, List.nil_append, Nat.zero_add, ← h, List.drop_left]
  | y :: r, j + 1, x, hj => by
    have h := f.len y
    have e1 : (j + 1) * f.sz = (f.enc y).length + j * f.sz := by rw [h, Nat.add_mul, Nat.one_mul, Nat.add_comm]
    rw [List.flatMap_cons, List.set_cons_succ, List.flatMap_cons, e1, List.take_append, List.take_of_length_le (by omega), show (f.enc y).length + j * f.sz - (f.enc y).length = j * f.sz by omega, Nat.add_assoc, List.drop_append, List.drop_of_length_le (by omega), List.nil_append,
      show (f.enc y).length + (j * f.sz + f.sz) - (f.enc y).length = j * f.sz + f.sz by omega, List.append_assoc, List.append_assoc, ← List.append_assoc (List.take _ _), flat_splice f r j x (by simpa using hj)]
end
theorem take_splice (cs vs : List Value) (a b N : Nat) (hb : vs.length = b) (h : a + b ≤ N) (hN : N ≤ cs.length) : (cs.take a ++ vs ++ cs.drop (a + b)).take N = (cs.take N).take a ++ vs ++ (cs.take N).drop (a + b) := by
  subst hb
  have h1 : (cs.take a).length = a := by rw [List.length_take]; omega
  rw [List.append_assoc, List.append_assoc, List.take_append, h1, List.take_append, List.take_of_length_le (by omega), List.take_of_length_le (l := vs) (by omega), List.take_take, Nat.min_eq_left (by omega), List.drop_take]
  congr 3
  omega
section
variable {α : Type} {f : Fk α} {P : Program} {n : Nat} {Q : Post} {l : Fr} {w W0 : World} {L L' : List Ch} {ops : Array Oper} {rest : List Oper} {d : Nat} {x y : Operand} {ty t e : TypeId} {pos : String} {af : Array Edge} {v : Value} {A : Option Addr} {m c : Nat} {i : Int} {xs : List α} {x' : α}
/-- A store of a whole element into a row of the call's own. -/
theorem wl_storeR (H : Holds W0 L w) (U : Upd L (Row f e (.slice A m c) xs) (Row f e (.slice A m c) (xs.set i.toNat x')) L') (hsz : ∀ W, (sizeOf t).run P W = .ok f.sz W) (hx : ev l x = some (.pointer (some ((adr A).add (i.toNat * f.sz))))) (hy : ev l y = some v) (hc : v.cells = (f.enc x').toArray) (h0 : 0 ≤ i) (h1 : i < xs.length)
    (h : ∀ w', Holds W0 L' w' → wl P n ops rest Q l w') : wl P n ops (⟨none, .store t x y, ty, pos, af, none⟩ :: rest) Q l w := by
  obtain ⟨S, hS, ⟨hSv, hown⟩, hstep⟩ := H.upd U
  have hlt : i.toNat < xs.length := by omega
  have hm : m = xs.length := (rd_of_own hown).1
  subst hm
  rcases hown.2 with ⟨hnil, hz⟩ | ⟨g, cap, cur, hv, _, hh, hnc, hcm, hsz2, hcur⟩
  · omega
  · injection hv with hA _ hcap
    subst hA hcap
    have hfl := flat_len f xs
    have hcl : cur.toList.length = c * f.sz := by simpa using hsz2
    have hle : xs.length * f.sz ≤ cur.toList.length := by rw [hcl]; exact Nat.mul_le_mul_right _ hnc
    have hoff : i.toNat * f.sz + f.sz ≤ xs.length * f.sz := by rw [← Nat.succ_mul]; exact Nat.mul_le_mul_right _ hlt
    obtain ⟨w', hr, g1, g2, g3, g4, g5, g6⟩ := run_storeCells_blk (P := P) (b := g) (t := e) (off := i.toNat * f.sz) (f.enc x') 0 w cur.toList _ (by simpa using hh) (put_splice cur.toList _ _ (by rw [f.len]; omega)) (f.one x')
    refine wl_s (w' := w') rfl rfl (fun a ha => ?_) (h w' (hstep w' S g4 g5 g6 (by omega) (fun k hk hn => g2 k (fun e => hn (e ▸ hSv g (by simp [Value.ownBlock])))) (fun k hk => .inl hk) ⟨hSv, ?_⟩))
    · simp [execOp, ha.eval hx, ha.eval hy, Instr.storeAt, Instr.sureAddr, storeVar, hsz, hc, f.len, adr, Addr.add_lit, hr]
    · refine ⟨by rw [flat_len, List.length_set], .inr ⟨g, c, _, by rw [List.length_set], Nat.zero_le _, g1, by rw [List.length_set]; exact hnc, hcm, ?_, ?_⟩⟩
      · simp only [List.size_toArray, List.length_append, List.length_take, List.length_drop, f.len, hcl]
        rw [hcl] at hle
        omega
      · rw [List.length_set, ← flat_splice f xs i.toNat x' hlt, ← hcur]
        exact take_splice cur.toList (f.enc x') (i.toNat * f.sz) _ _ rfl (by rw [f.len]; exact hoff) hle |>.trans (by rw [f.len])
theorem made_flat (f : Fk α) (z : Value) (z' : α) (hz : z.cells = (f.enc z').toArray) (hs0 : 0 < f.sz) (N : Nat) : (madeCells z.cells (N * f.sz)).toList = (List.replicate N z').flatMap f.enc := by
  rw [hz]
  have hsz : (f.enc z').toArray.size = f.sz := by simp [f.len]
  apply List.ext_getElem?
  intro j
  by_cases hj : j < N * f.sz
  · have hq : j / f.sz < N := (Nat.div_lt_iff_lt_mul hs0).2 hj
    have hr : j % f.sz < f.sz := Nat.mod_lt _ hs0
    have e1 := flat_get f (List.replicate N z') (j / f.sz) z' (by rw [List.getElem?_replicate, if_pos hq]) (j % f.sz) _ (List.getElem?_eq_getElem (by rw [f.len]; exact hr))
    rw [show j / f.sz * f.sz + j % f.sz = j from Nat.div_add_mod' j f.sz] at e1
    rw [e1]
    simp only [madeCells, Array.toList_map, Array.toList_range, List.getElem?_map, List.getElem?_range hj, Option.map_some, hsz]
    congr 1
    simp [f.len, hr]
  · rw [List.getElem?_eq_none (by simp [madeCells]; omega), List.getElem?_eq_none (by rw [flat_len]; simp; omega)]
/-- make([]T, n). -/
theorem wl_make {z : Value} {z' : α} {bytes : Nat} {q : Int} (H : Holds W0 L w) (hn : Nat.ble (d + 1) n = true) (ht : P.underlying t = some (.slice e)) (hi : (P.info? e).map (fun i => (i.zero, i.size, i.bytes)) = some (some z, f.sz, bytes)) (hz : z.cells = (f.enc z').toArray) (hs0 : 0 < f.sz)
    (hx : ev l x = some (.int .i64 q)) (hy : ev l y = some (.int .i64 q)) (h0 : 0 ≤ q) (hb : q * bytes ≤ 140737488355328) (hb0 : 0 < bytes)
    (h : ∀ A w', Holds W0 (Row f e (.slice A q.toNat q.toNat) (List.replicate q.toNat z') :: L) w' → w.heap.size ≤ w'.heap.size → wl P n ops rest Q ((d, .slice A q.toNat q.toNat) :: l) w') : wl P n ops (⟨some d, .makeSlice t x y, ty, pos, af, none⟩ :: rest) Q l w := by
  obtain ⟨i0, hi1, hi2⟩ := Option.map_eq_some_iff.1 hi
  simp only [Prod.mk.injEq] at hi2
  obtain ⟨g1, g2, g3⟩ := hi2
  obtain ⟨N, rfl⟩ := Int.eq_ofNat_of_zero_le h0
  have hN : N ≤ 140737488355328 := by
    have h2 : (N : Int) * 1 ≤ (N : Int) * bytes := Int.mul_le_mul_of_nonneg_left (by omega) (by omega)
    omega
  have hrun : (Instr.makeSlice t (.int .i64 (N : Int)) (.int .i64 (N : Int))).run P w = .ok (.slice (some ⟨w.heap.size, 0, none⟩) N N) (w.alloc (.cells (madeCells z.cells (N * f.sz)) e)) := by
    have h1 := run_make (P := P) w t e i0 z ht hi1 g1 .i64 .i64 (N : Int) N (by omega) (Int.le_refl _) (by rw [g3, Int.mul_comm]; exact Int.le_trans hb (by decide)) (by omega)
    rw [g2, Int.toNat_natCast] at h1
    exact h1
  refine wl_v rfl rfl hn (w' := w.alloc (.cells (madeCells z.cells (N * f.sz)) e)) (v := .slice (some ⟨w.heap.size, 0, none⟩) N N) (fun a ha => by simp [execOp, ha.eval hx, ha.eval hy, hrun]) ?_
  have := h (some ⟨w.heap.size, 0, none⟩) (w.alloc (.cells (madeCells z.cells (N * f.sz)) e)) ?_ (by simp)
  · simpa using this
  · refine H.push (below_alloc' w _) ⟨fun k hk => ?_, ?_⟩
    · have : w.heap.size = k := by simpa [Value.ownBlock] using hk
      subst this
      simp
    · have hl := made_flat f z z' hz hs0 N
      have := World.ownsRow_lit (base := 0) (e := e) (size := f.sz) w (madeCells z.cells (N * f.sz)) N (Nat.zero_le _) (by simp only [maxLen]; omega) (by simp [size_madeCells])
      rw [hl] at this
      simpa using this
theorem raw_row {α : Type} {f : Fk α} {e : TypeId} {v : Value} {xs ys : List α} {N : Nat} {cs : List Value} (hN : N = (xs ++ ys).length) (hcs : cs = (xs ++ ys).flatMap f.enc) : Raw e f.sz v N cs = Row f e v (xs ++ ys) := by subst hN hcs; rfl
/-- append(s, y). -/
theorem wl_app1 {z : Value} {bytes b : Nat} {cs : List Value} {y' : α} {sx : Operand} {L' : Value → List Ch} (H : Holds W0 L w) (U : ∀ v', Upd L (Row f e v xs) (Row f e v' (xs ++ [y'])) (L' v')) (UB : Upd L (Blk b e cs) (Blk b e cs) L) (hn : Nat.ble (d + 1) n = true)
    (ht : P.underlying t = some (.slice e)) (hi : (P.info? e).map (fun i => (i.zero, i.size, i.bytes)) = some (some z, f.sz, bytes)) (hz : z.cells.size = f.sz) (hs0 : 0 < f.sz)
    (hs : ev l sx = some v) (hx : ev l x = some (.slice (some ⟨b, 0, none⟩) 1 1)) (hcs : cs = f.enc y') (hb : (xs.length + 1) * bytes ≤ 140737488355328) (hb0 : 0 < bytes)
    (h : ∀ A c w', Holds W0 (L' (.slice A (xs ++ [y']).length c)) w' → w.heap.size ≤ w'.heap.size → wl P n ops rest Q ((d, .slice A (xs ++ [y']).length c) :: l) w') : wl P n ops (⟨some d, .call { callee := .builtin .append, args := #[sx, x], argTypes := #[t, t] }, ty, pos, af, none⟩ :: rest) Q l w := by
  subst hcs
  have hl : (f.enc y').length = 1 * f.sz := by rw [f.len, Nat.one_mul]
  have e1 : xs.flatMap f.enc ++ f.enc y' = (xs ++ [y']).flatMap f.enc := by simp
  refine wl_append (L' := L') (cs := xs.flatMap f.enc) (news := f.enc y') H (fun v' => ?_) hn ht hi hz hs0 hs hx (fun _ => rfl) hl (fun j u hu => ?_) (f.one y') hb hb0 (fun v' w' H' hsz => ?_)
  · rw [raw_row (xs := xs) (ys := [y']) (by simp) e1]
    exact U v'
  · exact H.ats UB j u hu
  · have hown : w'.ownsRow 0 e f.sz v' (xs ++ [y']).length ((xs ++ [y']).flatMap f.enc) := by
      obtain ⟨_, _, ⟨_, ho⟩, _⟩ := H'.upd (U v').swap
      exact ho
    obtain ⟨A, c, rfl, _, _, _⟩ := own_slice hown
    exact h A c w' H' hsz
/-- append(s, ys...), ys read. -/
theorem wl_appR {z : Value} {bytes c' : Nat} {ys : List α} {sx : Operand} {L' : Value → List Ch} (H : Holds W0 L w) (U : ∀ v', Upd L (Row f e v xs) (Row f e v' (xs ++ ys)) (L' v')) (hn : Nat.ble (d + 1) n = true)
    (ht : P.underlying t = some (.slice e)) (hi : (P.info? e).map (fun i => (i.zero, i.size, i.bytes)) = some (some z, f.sz, bytes)) (hz : z.cells.size = f.sz) (hs0 : 0 < f.sz)
    (hs : ev l sx = some v) (hx : ev l x = some (.slice A ys.length c')) (hr : Rd f.kn w A ys) (hb : (xs.length + ys.length) * bytes ≤ 140737488355328) (hb0 : 0 < bytes)
    (h : ∀ A c w', Holds W0 (L' (.slice A (xs ++ ys).length c)) w' → w.heap.size ≤ w'.heap.size → wl P n ops rest Q ((d, .slice A (xs ++ ys).length c) :: l) w') : wl P n ops (⟨some d, .call { callee := .builtin .append, args := #[sx, x], argTypes := #[t, t] }, ty, pos, af, none⟩ :: rest) Q l w := by
  have e1 : xs.flatMap f.enc ++ ys.flatMap f.enc = (xs ++ ys).flatMap f.enc := by simp
  refine wl_append (L' := L') (cs := xs.flatMap f.enc) (news := ys.flatMap f.enc) H (fun v' => ?_) hn ht hi hz hs0 hs hx hr.ad (flat_len f ys) (fun j u hu => ?_) (fun u hu => ?_) hb hb0 (fun v' w' H' hsz => ?_)
  · rw [raw_row (xs := xs) (ys := ys) (by simp) e1]
    exact U v'
  · have hj : j < ys.length * f.sz := by rw [← flat_len]; exact (List.getElem?_eq_some_iff.1 hu).1
    have hq : j / f.sz < ys.length := (Nat.div_lt_iff_lt_mul hs0).2 hj
    obtain ⟨cs, rfl, hc⟩ := hr.el (j / f.sz) _ (List.getElem?_eq_getElem hq)
    have hm : j % f.sz < (f.enc ys[j / f.sz]).length := by rw [f.len]; exact Nat.mod_lt _ hs0
    have e2 := flat_get f ys (j / f.sz) _ (List.getElem?_eq_getElem hq) (j % f.sz) _ (List.getElem?_eq_getElem hm)
    have e3 := hc (j % f.sz) _ (List.getElem?_eq_getElem hm)
    have e4 : j / f.sz * f.sz + j % f.sz = j := Nat.div_add_mod' j f.sz
    rw [e4, hu] at e2
    rw [← e2] at e3
    have e5 : j / f.sz * f.kn.sz + j % f.sz = j := e4
    rw [e5] at e3
    exact e3
  · obtain ⟨y', _, hy'⟩ := List.mem_flatMap.1 hu
    exact f.one y' u hy'
  · have hown : w'.ownsRow 0 e f.sz v' (xs ++ ys).length ((xs ++ ys).flatMap f.enc) := by
      obtain ⟨_, _, ⟨_, ho⟩, _⟩ := H'.upd (U v').swap
      exact ho
    obtain ⟨A, c, rfl, _, _, _⟩ := own_slice hown
    exact h A c w' H' hsz
/-- A call of a function without a body. -/
theorem wl_ext {fo : FuncId} {xs : List Operand} {vs : List Value} {ats : Array TypeId} {w' : World} (hx : evs l xs = some vs) (hn : Nat.ble (d + 1) n = true) (hrun : (callFunc fo vs.toArray).run P w = .ok (.value v) w')
    (h : wl P n ops rest Q ((d, v) :: l) w') : wl P n ops (⟨some d, .call { callee := .value (.func fo), args := xs.toArray, argTypes := ats }, ty, pos, af, none⟩ :: rest) Q l w := fun a ha => by
  refine wpList_plain rfl fun K hK => ?_
  unfold Oper.wp
  have hargs : xs.toArray.map a.eval = vs.toArray := by rw [List.map_toArray, ha.evals hx]
  have hr : (execOp a.eval ⟨some d, .call { callee := .value (.func fo), args := xs.toArray, argTypes := ats }, ty, pos, af, none⟩).run P w = .ok (.value v) w' := by
    simp only [execOp, resolve, Act.eval, Deferred.ofValue, Sem.run_bind, Sem.run_pure, Result.andThen_ok, invoke, hargs, Array.empty_append, Array.append_empty]
    exact hrun
  rw [hr, Oper.upon_value]
  exact hK _ _ (h _ (ha.put hn v))
theorem wl_extv {fo : FuncId} {fx : Operand} {first captured : List Value} {xs : List Operand} {vs : List Value} {ats : Array TypeId} {w' : World} (hf : ev l fx = some (.func (.func fo) first.toArray captured.toArray)) (hx : evs l xs = some vs) (hn : Nat.ble (d + 1) n = true) (hrun : (callFunc fo (first ++ vs ++ captured).toArray).run P w = .ok (.value v) w')
    (h : wl P n ops rest Q ((d, v) :: l) w') : wl P n ops (⟨some d, .call { callee := .value fx, args := xs.toArray, argTypes := ats }, ty, pos, af, none⟩ :: rest) Q l w := fun a ha => by
  refine wpList_plain rfl fun K hK => ?_
  unfold Oper.wp
  have hargs : xs.toArray.map a.eval = vs.toArray := by rw [List.map_toArray, ha.evals hx]
  have hr : (execOp a.eval ⟨some d, .call { callee := .value fx, args := xs.toArray, argTypes := ats }, ty, pos, af, none⟩).run P w = .ok (.value v) w' := by
    simp only [execOp, resolve, ha.eval hf, Deferred.ofValue, Sem.run_bind, Sem.run_pure, Result.andThen_ok, invoke, hargs, List.append_toArray]
    exact hrun
  rw [hr, Oper.upon_value]
  exact hK _ _ (h _ (ha.put hn v))
theorem v_iface {p : Value} {i : TypeId} (hc : (P.underlying t).map (fun k => match k with | .interface _ => false | _ => true) = some true) (hx : ev l x = some p) : Vs P n l ⟨some d, .makeInterface t x, ty, pos, af, none⟩ w (.iface t p) := fun a ha => by
  obtain ⟨k, hk, hk2⟩ := Option.map_eq_some_iff.1 hc
  have hu : (underlying t).run P w = .ok k w := run_underlying hk w
  cases k <;> simp_all [execOp, ha.eval hx, Instr.makeInterface, Result.andThen]
end
end Go.Proofs.YtkpehkadammppaaFx
