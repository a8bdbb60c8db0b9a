/- Inner rows of rows of the call's own: one at a time; appends whose result is dropped. -/
import Derived.Test.YtkpehkadammppaaHeld
set_option linter.unusedVariables false
namespace Go.Proofs.YtkpehkadammppaaFx
open Go Go.RowKit
section
variable {P : Program} (w : World)
theorem run_append_keep (base : Nat) (t ty e : TypeId) (i : TypeInfo) (z : Value) (size bytes : Nat) (ht : P.underlying t = some (.slice e)) (hi : P.info? e = some i) (hz : i.zero = some z)
    (hsize : i.size = size) (hby : i.bytes = bytes) (hzs : z.cells.size = size) (hsz : 0 < size)
    (v : Value) (n : Nat) (xs : List Value) (hown : w.ownsRow base e size v n xs)
    (a : Addr) (m c : Nat) (news : List Value) (hl : news.length = m * size) (hnews : ∀ j u, news[j]? = some u → w.cell? (a.add j) = some u) (h1 : ∀ u ∈ news, u.oneCell' = true)
    (h63 : n + m ≤ maxLen) (hbytes : (n + m) * bytes ≤ 140737488355328) (hbase : base ≤ w.heap.size) (hm : 0 < m) :
    ∃ v' w', (Builtin.append_ #[t, t] ty #[v, .slice (some a) m c]).run P w = .ok v' w' ∧ w'.ownsRow base e size v n xs ∧ w.grownBy w' v.ownBlock := by
  subst hsize
  subst hby
  have hsmall : n + m ≤ 9223372036854775807 := by simp only [maxLen] at h63; omega
  rcases hown.2 with ⟨rfl, rfl⟩ | ⟨g, cap, cur, rfl, hbg, hg, hnc, hcm, hcs, htake⟩
  · have hr := run_append_nil (P := P) w t ty e i z ht hi hz a m c news hl hnews (by omega) (by omega) (by have hb := hbytes; simp only [Nat.zero_add] at hb; omega)
    exact ⟨_, _, hr, ⟨hown.1, .inl ⟨rfl, rfl⟩⟩, ⟨rfl, rfl, rfl, by simp, fun k hk _ => heap_alloc_old w.drew _ k hk⟩⟩
  · by_cases hroom : n + m ≤ cap
    · have hfit : n * i.size + news.length ≤ cur.size := by rw [hl, hcs, ← Nat.add_mul]; exact Nat.mul_le_mul_right _ hroom
      have hr := run_append_room (P := P) w t ty e i ht hi g n cap cur hg a m c news hl hnews h1 hroom hfit
      refine ⟨_, _, hr, ⟨hown.1, .inr ⟨g, cap, _, rfl, hbg, setRow_heap w g cur _ e _ hg, hnc, hcm, ?_, ?_⟩⟩, ⟨rfl, rfl, rfl, by simp, fun k _ hk => setRow_other w g k _ (fun e => hk (by simp [Value.ownBlock, e]))⟩⟩
      · simp only [List.size_toArray, List.length_append, List.length_take, List.length_drop, Array.length_toList]
        omega
      · have hl2 : (cur.toList.take (n * i.size)).length = n * i.size := by rw [htake]; exact hown.1
        have h3 : ((cur.toList.take (n * i.size) ++ news ++ cur.toList.drop (n * i.size + news.length)).toArray).toList.take (n * i.size) = cur.toList.take (n * i.size) := by
          rw [List.append_assoc]
          exact List.take_left' hl2
        rw [h3, htake]
    · have holds : ∀ j u, xs[j]? = some u → w.cell? ((⟨g, 0, none⟩ : Addr).add j) = some u := hown.cells (g := g) rfl
      have hr := run_append_grow (P := P) w t ty e i z ht hi hz ⟨g, 0, none⟩ n cap xs hown.1 holds a m c news hl hnews (by omega) (by omega) (growslice_fits (by omega) hbytes)
      have hgr : ∀ row, w.grownBy (w.drew.alloc (.cells (xs.toArray ++ news.toArray ++ Builtin.zeroCells z.cells (grownCap w (n + m) cap e - (n + m))) e)) row := fun row => ⟨rfl, rfl, rfl, by simp, fun k hk _ => heap_alloc_old w.drew _ k hk⟩
      exact ⟨_, _, hr, hown.kept (hgr none) (.inr (by simp [Value.ownBlock])), hgr _⟩
end
theorem getD_irr {α : Type} {xs : List α} {i : Nat} (h : i < xs.length) (a b : α) : xs.getD i a = xs.getD i b := by
  rw [List.getD_eq_getElem?_getD, List.getD_eq_getElem?_getD, List.getElem?_eq_getElem h]
  rfl
theorem del_app {L L' : List Ch} {A : Ch} (D : Del L A L') (M : List Ch) : Del (L ++ M) A (L' ++ M) := by
  induction D with
  | here A L => exact .here A _
  | there C h ih => exact .there C ih
theorem Holds.mergeAll {W0 w : World} {L1 L2 : List Ch} (H : Holds W0 (L1 ++ L2) w) : Holds W0 [] w ∧ ∃ S1 S2 : Nat → Prop, True ∧ True ∧ True ∧ HL L1 w S1 ∧ HL L2 w S2 := by
  obtain ⟨S1, S2, _, _, _, h4, h5⟩ := HL.unapp H.hl
  exact ⟨⟨H.old, trivial⟩, S1, S2, trivial, trivial, trivial, h4, h5⟩
section
variable {α : Type} {f : Fk α} {P : Program} {n : Nat} {Q : Post} {l : Fr} {w W0 : World} {L L' : List Ch} {ops : Array Oper} {rest : List Oper} {d : Nat} {x y : Operand} {ty t e : TypeId} {pos : String} {af : Array Edge} {v : Value} {xs : List α}
/-- append(s, x...) whose result is dropped: s stays as it is. -/
theorem wl_appDrop {z : Value} {bytes m c : Nat} {A : Option Addr} {news : List Value} {sx : Operand} (H : Holds W0 L w) (U : Upd L (Row f e v xs) (Row f e v xs) L) (hn : Nat.ble (d + 1) n = true)
    (ht : P.underlying t = some (.slice e)) (hi : (P.info? e).map (fun i => (i.zero, i.size, i.bytes)) = some (some z, f.sz, bytes)) (hz : z.cells.size = f.sz) (hs0 : 0 < f.sz)
    (hs : ev l sx = some v) (hx : ev l x = some (.slice A m c)) (hA : 0 < m → A = some (adr A)) (hl : news.length = m * f.sz) (hc : ∀ j u, news[j]? = some u → w.cell? ((adr A).add j) = some u) (h1 : ∀ u ∈ news, u.oneCell' = true)
    (hb : (xs.length + m) * bytes ≤ 140737488355328) (hb0 : 0 < bytes) (hm : 0 < m)
    (h : ∀ v' w', Holds W0 L w' → w.heap.size ≤ w'.heap.size → wl P n ops rest Q ((d, v') :: l) w') : wl P n ops (⟨some d, .call { callee := .builtin .append, args := #[sx, x], argTypes := #[t, t] }, ty, pos, af, none⟩ :: rest) Q l w := by
  obtain ⟨i0, hi1, hi2⟩ := Option.map_eq_some_iff.1 hi
  simp only [Prod.mk.injEq] at hi2
  obtain ⟨g1, g2, g3⟩ := hi2
  obtain ⟨S, hS, ⟨hSv, hown⟩, hstep⟩ := H.upd U
  have hlen : xs.length + m ≤ 140737488355328 := Nat.le_trans (Nat.le_mul_of_pos_right _ hb0) hb
  rw [hA hm] at hx
  obtain ⟨v1, w1, hr, hown1, hg⟩ := run_append_keep (P := P) w 0 t ty e i0 z f.sz bytes ht hi1 g1 g2 g3 hz hs0 v xs.length _ hown (adr A) m c news hl hc h1 (by simp only [maxLen]; omega) hb (Nat.zero_le _) hm
  refine wl_v rfl rfl hn (w' := w1) (v := v1) (fun a ha => ?_) (h v1 w1 ?_ hg.size)
  · simp [execOp, resolve, invoke, builtin, ha.eval hs, ha.eval hx, hr]
  · exact hstep w1 S hg.os hg.tape hg.output hg.size (fun k hk hn => hg.block k hk (fun e => hn (hSv k e.symm))) (fun k hk => .inl hk) ⟨hSv, hown1⟩
/-- A store of one cell of an element into a row of the call's own. -/
theorem wl_storeC {A : Option Addr} {m c k : Nat} {i : Int} {x' : α} {u : Value} {z0 : α} (H : Holds W0 L w) (U : Upd L (Row f e (.slice A m c) xs) (Row f e (.slice A m c) (xs.set i.toNat x')) L') (hsz : ∀ W, (sizeOf t).run P W = .ok 1 W) (hx : ev l x = some (.pointer (some (((adr A).add (i.toNat * f.sz)).add k)))) (hy : ev l y = some u) (hc : u.cells = [u].toArray) (h1 : u.oneCell' = true) (h0 : 0 ≤ i) (hi : i < xs.length) (hk : k < f.sz)
    (he : (f.enc (xs.getD i.toNat z0)).set k u = f.enc x') (h : ∀ w', Holds W0 L' w' → wl P n ops rest Q l w') : wl P n ops (⟨none, .store t x y, ty, pos, af, none⟩ :: rest) Q l w := by
  obtain ⟨S, hS, ⟨hSv, hown⟩, hstep⟩ := H.upd U
  have hlt : i.toNat < xs.length := by omega
  have hm : m = xs.length := (rd_of_own hown).1
  subst hm
  rcases hown.2 with ⟨hnil, hz⟩ | ⟨g, cap, cur, hv, _, hh, hnc, hcm, hsz2, hcur⟩
  · omega
  · injection hv with hA _ hcap
    subst hA hcap
    have hfl := flat_len f xs
    have hcl : cur.toList.length = c * f.sz := by simpa using hsz2
    have hle : xs.length * f.sz ≤ cur.toList.length := by rw [hcl]; exact Nat.mul_le_mul_right _ hnc
    have hoff : i.toNat * f.sz + f.sz ≤ xs.length * f.sz := by rw [← Nat.succ_mul]; exact Nat.mul_le_mul_right _ hlt
    obtain ⟨w', hr, g1, g2, g3, g4, g5, g6⟩ := run_storeCells_blk (P := P) (b := g) (t := e) (off := i.toNat * f.sz + k) [u] 0 w cur.toList _ (by simpa using hh) (put_splice cur.toList _ _ (by simp only [List.length_singleton]; omega)) (fun v hv => by rw [List.mem_singleton.1 hv]; exact h1)
    have hset : ∀ (ys : List Value) (j : Nat), j < ys.length → ys.take j ++ [u] ++ ys.drop (j + 1) = ys.set j u := fun ys j hj => by
      rw [List.set_eq_take_append_cons_drop, if_pos hj]; simp
    have hdef : z0 = z0 := rfl
    rw [List.length_singleton, Nat.add_zero, hset _ _ (by omega)] at g1
    refine wl_s (w' := w') rfl rfl (fun a ha => ?_) (h w' (hstep w' S g4 g5 g6 (by omega) (fun q hq hn => g2 q (fun e => hn (e ▸ hSv g (by simp [Value.ownBlock])))) (fun q hq => .inl hq) ⟨hSv, ?_⟩))
    · simp [execOp, ha.eval hx, ha.eval hy, Instr.storeAt, Instr.sureAddr, storeVar, hsz, hc, adr, Addr.add_lit, hr]
    · refine ⟨by rw [flat_len, List.length_set], .inr ⟨g, c, _, by rw [List.length_set], Nat.zero_le _, g1, by rw [List.length_set]; exact hnc, hcm, ?_, ?_⟩⟩
      · simp only [List.size_toArray, List.length_set, hcl]
      · have h2 := flat_set f xs i.toNat k x' u hlt hk (by rw [← he]; congr 2; exact getD_irr hlt _ _)
        rw [List.length_set]
        show (cur.toList.set (i.toNat * f.sz + k) u).take (xs.length * f.sz) = _
        rw [List.take_set, hcur, h2]
end
/-! ### one inner row -/
section
variable {α : Type} {f : Fk α} {w w' W0 : World} {A : Option Addr} {xss : List (List α)} {L : List Ch} {e e2 n c : Nat}
theorem zips_del (f : Fk α) (e : TypeId) : ∀ (vs : List Value) (xss : List (List α)) (i : Nat), vs.length = xss.length → i < xss.length → Del (zips f e vs xss) (Row f e (vs.getD i .nilFunc) (xss.getD i [])) (zips f e (vs.eraseIdx i) (xss.eraseIdx i))
  | [], [], i, _, hi => by simp at hi
  | [], _ :: _, _, h, _ => by simp at h
  | _ :: _, [], _, h, _ => by simp at h
  | v :: vs, x :: xss, 0, _, _ => .here _ _
  | v :: vs, x :: xss, i + 1, h, hi => .there _ (zips_del f e vs xss i (by simpa using h) (by simpa using hi))
theorem zips_ins (f : Fk α) (e : TypeId) (ys : List α) (L : List Ch) (hL : Pm L L) : ∀ (vs : List Value) (xss : List (List α)) (i : Nat), vs.length = xss.length → i < xss.length → Pm (Row f e (vs.getD i .nilFunc) ys :: (zips f e (vs.eraseIdx i) (xss.eraseIdx i) ++ L)) (zips f e vs (xss.set i ys) ++ L)
  | [], [], i, _, hi => by simp at hi
  | [], _ :: _, _, h, _ => by simp at h
  | _ :: _, [], _, h, _ => by simp at h
  | v :: vs, x :: xss, 0, _, _ => .cons (.here _ _) (pmrefl _)
  | v :: vs, x :: xss, i + 1, h, hi => .cons (.there _ (.here _ _)) (zips_ins f e ys L hL vs xss i (by simpa using h) (by simpa using hi))
where pmrefl : ∀ L : List Ch, Pm L L
  | [] => .nil _
  | A :: L => .cons (.here _ _) (pmrefl L)
theorem Pm.refl : ∀ L : List Ch, Pm L L
  | [] => .nil _
  | A :: L => .cons (.here _ _) (Pm.refl L)
theorem zips_len (f : Fk α) (e : TypeId) : ∀ (vs : List Value) (xss : List (List α)) (w : World) (S : Nat → Prop), vs.length = xss.length → HL (zips f e vs xss) w S → ∀ i, i < xss.length → ∃ B c, vs.getD i .nilFunc = .slice B (xss.getD i []).length c
  | [], [], _, _, _, _, i, hi => by simp at hi
  | [], _ :: _, _, _, h, _, _, _ => by simp at h
  | _ :: _, [], _, _, h, _, _, _ => by simp at h
  | v :: vs, x :: xss, w, S, h, hl, i, hi => by
    obtain ⟨S1, S2, _, _, _, h4, h5⟩ := hl
    cases i with
    | zero =>
      obtain ⟨B, c, hv, _⟩ := own_slice h4.2
      exact ⟨B, c, hv⟩
    | succ i => exact zips_len f e vs xss w S2 (by simpa using h) h5 i (by simpa using hi)
/-- One inner row, taken out; behind it, put back. -/
theorem Holds.rrAt {i : Nat} (H : Holds W0 (RR f e e2 (.slice A n c) xss :: L) w) (hi : i < xss.length) :
    ∃ (B : Option Addr) (cB : Nat) (R : List Ch), w.cell? ((adr A).add ((i : Int).toNat * 1)) = some (.slice B (xss.getD i []).length cB) ∧ Holds W0 (Row f e2 (.slice B (xss.getD i []).length cB) (xss.getD i []) :: R) w ∧
      ∀ (w' : World) (ys : List α), Holds W0 (Row f e2 (.slice B (xss.getD i []).length cB) ys :: R) w' → Holds W0 (RR f e e2 (.slice A n c) (xss.set i ys) :: L) w' := by
  obtain ⟨vs, hv, H1⟩ := H.rrOpen
  obtain ⟨B, cB, hB⟩ : ∃ B c, vs.getD i .nilFunc = .slice B (xss.getD i []).length c := by
    obtain ⟨_, S1, S2, _, _, _, ⟨T1, T2, _, _, _, _, g5⟩, _⟩ := H1.mergeAll
    exact zips_len f e2 vs xss w _ hv g5 i hi
  have hraw := H1.raw (.here _ _ _)
  obtain ⟨A', c', hA1, _, hA2, hcell⟩ := own_slice hraw
  injection hA1 with a1 a2 a3
  subst a1 a2 a3
  have hD := (zips_del f e2 vs xss i hv hi)
  refine ⟨B, cB, Raw e 1 (.slice A xss.length c) xss.length vs :: (zips f e2 (vs.eraseIdx i) (xss.eraseIdx i) ++ L), ?_, ?_, fun w' ys H' => ?_⟩
  · rw [Int.toNat_natCast, Nat.mul_one]
    refine hcell i _ ?_
    rw [← hB, List.getD_eq_getElem?_getD, List.getElem?_eq_getElem (by omega)]
    rfl
  · rw [← hB]
    exact H1.turn (.there _ (del_app hD L))
  · rw [← hB] at H'
    refine Holds.rrClose (vs := vs) (by rw [List.length_set]; exact hv) ?_
    rw [List.length_set]
    exact H'.pm (.cons (.there _ (.here _ _)) (zips_ins f e2 ys L (Pm.refl L) vs xss i hv hi))
end
/-- Rows of so many rows, none too long. -/
structure OLs {α : Type} (N : Nat) (xss : List (List α)) : Prop where
  len : xss.length = N
  all : ∀ r ∈ xss, r.length ≤ 1099511627776
theorem OLs.row {α : Type} {N i : Nat} {xss : List (List α)} (h : OLs N xss) (hi : i < N) : (xss.getD i []).length ≤ 1099511627776 := by
  have h1 := h.len
  have hl : i < xss.length := by omega
  rw [List.getD_eq_getElem?_getD, List.getElem?_eq_getElem hl]
  exact h.all _ (List.getElem_mem hl)
theorem OLs.set {α : Type} {N i : Nat} {xss : List (List α)} {ys : List α} (h : OLs N xss) (hi : i < N) (hy : ys.length = (xss.getD i []).length) : OLs N (xss.set i ys) ∧ ((xss.set i ys).getD i []).length = (xss.getD i []).length := by
  have hr := h.row hi
  have h1 := h.len
  refine ⟨⟨by rw [List.length_set]; exact h1, fun r hr' => ?_⟩, ?_⟩
  · rcases List.mem_or_eq_of_mem_set hr' with h2 | rfl
    · exact h.all r h2
    · omega
  · rw [List.getD_eq_getElem?_getD, List.getElem?_set_self (by omega)]
    exact hy
end Go.Proofs.YtkpehkadammppaaFx
