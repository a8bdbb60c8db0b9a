/- The number that bytes tell, byte by byte; strings of rows of bytes. Rows of bytes of the call's own. Rows of bytes of the call's own, behind whose end a mark may lie (what a conversion of a string leaves). Runes and their bytes: the document's answer. Pieces of texts: the document's answer. Texts within quotes: the document's answer. Data, as the document finds them. -/
import Derived.Test.YtgdemplcpcacaaaK13
import Derived.Laws.IdiomStrings
import Derived.Test.YtgdemplcpcacaaaK02
import Derived.Lib.FrozenHead2
import Derived.Lib.ConvBytes
import Derived.Test.YtgdemplcpcacaaaProg
import Derived.Test.YtgdemplcpcacaaaK03
set_option linter.unusedVariables false
set_option linter.unusedSimpArgs false
/-! The number that bytes tell, byte by byte; strings of rows of bytes. -/
namespace Go.Proofs.YtgdemplcpcacaaaFx
open Go Go.RowKit
section
variable {P : Program} {n : Nat} {l : Fr} {w W0 : World} {L : List Ch} {x : Operand} {ty t t2 e : TypeId} {pos : String} {af : Array Edge} {gd : Option (Nat × Bool)} {dst : Option Tmp}
theorem v_convBS {A : Option Addr} {c : Nat} {bs : List UInt8} (hs : P.underlying t = some (.slice e)) (he : P.underlying e = some (.int .u8)) (hd : P.underlying t2 = some .string) (hA : A = some (adr A)) (hc : ∀ j u, (byC bs)[j]? = some u → w.cell? ((adr A).add j) = some u) (hx : ev l x = some (.slice A bs.length c)) : Vs P n l ⟨dst, .convert t t2 x, ty, pos, af, gd⟩ w (.string ⟨bs.toArray⟩) := fun a ha => by
  rw [hA] at hx
  have h := run_convert_bytes_back (P := P) w t t2 e (adr A) c bs hs he hd (fun j hj => hc j _ (by simp [Lib.byteCells, List.getElem?_eq_getElem hj]))
  simp [execOp, ha.eval hx, h]
end
/-- The number so far. -/
def acN (s : ByteArray) (i n : Nat) : Nat → Nat
  | 0 => if 1 < n then bt s i 0 % 2 ^ (7 - n) else bt s i 0
  | k + 1 => acN s i n k * 64 + bt s i (k + 1) % 64
theorem acN_cnd {s : ByteArray} {i n : Nat} (h1 : 1 ≤ n) (h4 : n ≤ 4) : acN s i n (n - 1) = cnd s i n := by
  rcases (by omega : n = 1 ∨ n = 2 ∨ n = 3 ∨ n = 4) with rfl | rfl | rfl | rfl
  · rfl
  · rfl
  · show (bt s i 0 % 16 * 64 + bt s i 1 % 64) * 64 + bt s i 2 % 64 = bt s i 0 % 16 * 4096 + bt s i 1 % 64 * 64 + bt s i 2 % 64
    omega
  · show ((bt s i 0 % 8 * 64 + bt s i 1 % 64) * 64 + bt s i 2 % 64) * 64 + bt s i 3 % 64 = bt s i 0 % 8 * 262144 + bt s i 1 % 64 * 4096 + bt s i 2 % 64 * 64 + bt s i 3 % 64
    omega
theorem acN_0 (s : ByteArray) (i n : Nat) : acN s i n 0 < 256 := by
  have := bt_lt s i 0
  show (if 1 < n then bt s i 0 % 2 ^ (7 - n) else bt s i 0) < 256
  split
  · exact Nat.lt_of_le_of_lt (Nat.mod_le _ _) this
  · exact this
theorem acN_lt (s : ByteArray) (i n m : Nat) (h : m ≤ 3) : acN s i n m < 67108864 ∧ (m ≤ 2 → acN s i n m < 1048576) := by
  have h0 := acN_0 s i n
  have e1 : acN s i n 1 = acN s i n 0 * 64 + bt s i 1 % 64 := rfl
  have e2 : acN s i n 2 = acN s i n 1 * 64 + bt s i 2 % 64 := rfl
  have e3 : acN s i n 3 = acN s i n 2 * 64 + bt s i 3 % 64 := rfl
  rcases (by omega : m = 0 ∨ m = 1 ∨ m = 2 ∨ m = 3) with rfl | rfl | rfl | rfl
  · omega
  · omega
  · omega
  · omega
theorem shl7 {n : Nat} (h1 : 1 < n) (h4 : n ≤ 4) : IntKind.u32.wrap (1 * 2 ^ (7 - (n : Int)).toNat) = ((2 ^ (7 - n) : Nat) : Int) := by
  rcases (by omega : n = 2 ∨ n = 3 ∨ n = 4) with rfl | rfl | rfl <;> rfl
theorem enc_encL {c : Nat} (hv : Utf8.valid (c : Int) = true) : Utf8.encode (c : Int) = ⟨(encL c).toArray⟩ := enc_is hv
section
variable {s : ByteArray} {i n : Nat}
theorem nxt_end (hi : i < s.size) (hno : ∀ m, 1 ≤ m → m < n → ¬ isR s i m) (hx : n = 5 ∨ s.size < i + n) : nxt s i = (0, 1, false) := nxt_no hi fun m h1 h2 hR => by
  rcases (by omega : m < n ∨ n ≤ m) with h3 | h3
  · exact hno m h1 h3 hR
  · have h4 := hR.1
    omega
theorem notR_next (hno : ∀ m, 1 ≤ m → m < n → ¬ isR s i m) (h : ¬ isR s i n) : ∀ m, 1 ≤ m → m < n + 1 → ¬ isR s i m := fun m h1 h2 => by
  rcases (by omega : m < n ∨ m = n) with h3 | h3
  · exact hno m h1 h3
  · subst h3
    exact h
theorem notR_big (h : ¬ ((cnd s i n : Nat) : Int) ≤ 1114111) : ¬ isR s i n := fun hR => by
  have := (valid_iff _).1 hR.2.1
  omega
theorem notR_bad (h : Utf8.valid ((cnd s i n : Nat) : Int) = false) : ¬ isR s i n := fun hR => absurd (hR.2.1.symm.trans h) (by decide)
theorem notR_ne (h : ¬ (⟨(encL (cnd s i n)).toArray⟩ : ByteArray) = s.extract i (i + n)) : ¬ isR s i n := fun hR => by
  have h2 := hR.2.2
  rw [enc_encL hR.2.1] at h2
  exact h h2
end
end Go.Proofs.YtgdemplcpcacaaaFx

/-! Rows of bytes of the call's own. -/
namespace Go.Proofs.YtgdemplcpcacaaaFx
open Go Go.RowKit
abbrev BR (e : TypeId) (v : Value) (l : List UInt8) : Ch := Raw e 1 v l.length (byC l)
theorem byC_one (l : List UInt8) : ∀ u ∈ byC l, u.oneCell' = true := fun u hu => by
  obtain ⟨b, _, rfl⟩ := List.mem_map.1 hu
  rfl
theorem Holds.litB {W0 w : World} {L : List Ch} {b e : Nat} {l : List UInt8} (H : Holds W0 (Blk b e (byC l) :: L) w) (hm : l.length ≤ maxLen) : Holds W0 (BR e (.slice (some ⟨b, 0, none⟩) l.length l.length) l :: L) w := by
  have hfl := byC_len l
  generalize hcs : byC l = cs at H hfl
  refine H.head_imp fun S (h : S b ∧ w.heap[b]? = some (.cells cs.toArray e (0, 0))) => ⟨fun k hk => ?_, by rw [Nat.mul_one]; exact byC_len l, .inr ⟨b, l.length, cs.toArray, rfl, Nat.zero_le _, h.2, Nat.le_refl _, hm, ?_, ?_⟩⟩
  · have : b = k := by simpa [Value.ownBlock] using hk
    rw [← this]
    exact h.1
  · simpa using hfl
  · rw [hcs, Nat.mul_one, ← hfl]
    simp
section
variable {P : Program} {n : Nat} {Q : Post} {l : Fr} {w W0 : World} {L : List Ch} {ops : Array Oper} {rest : List Oper} {d b : Nat} {x sx : Operand} {ty t e u : TypeId} {pos : String} {af : Array Edge} {v : Value} {bs ys : List UInt8}
theorem br_app {N : Nat} {v' : Value} : Raw e 1 v' (bs.length + ys.length) (byC bs ++ byC ys) = BR e v' (bs ++ ys) := by
  unfold BR
  rw [List.length_append, byC_app]
/-- append(row of bytes, bytes...). -/
theorem wl_appY {z : Value} {A : Option Addr} {c : Nat} {L' : Value → List Ch} (H : Holds W0 L w) (U : ∀ v', Upd L (BR e v bs) (BR e v' (bs ++ ys)) (L' v')) (hn : Nat.ble (d + 1) n = true)
    (ht : P.underlying t = some (.slice e)) (hi : (P.info? e).map (fun i => (i.zero, i.size, i.bytes)) = some (some z, 1, 1)) (hz : z.cells.size = 1)
    (hs : ev l sx = some v) (hx : ev l x = some (.slice A ys.length c)) (hA : 0 < ys.length → A = some (adr A)) (hc : ∀ j u, (byC ys)[j]? = some u → w.cell? ((adr A).add j) = some u) (hb : bs.length + ys.length ≤ 140737488355328)
    (h : ∀ A c w', Holds W0 (L' (.slice A (bs ++ ys).length c)) w' → w.heap.size ≤ w'.heap.size → wl P n ops rest Q ((d, .slice A (bs ++ ys).length c) :: l) w') : wl P n ops (⟨some d, .call { callee := .builtin .append, args := #[sx, x], argTypes := #[t, t] }, ty, pos, af, none⟩ :: rest) Q l w := by
  refine wl_append (L' := L') (cs := byC bs) (news := byC ys) H (fun v' => by rw [br_app (N := 0)]; exact U v') hn ht hi hz (by omega) hs hx hA (by rw [Nat.mul_one]; exact byC_len ys) hc (byC_one ys) (by omega) (by omega) fun v' w' H' hsz => ?_
  obtain ⟨_, _, ⟨_, ho⟩, _⟩ := H'.upd (U v').swap
  obtain ⟨A, c, rfl, _⟩ := own_slice ho
  exact h A c w' H' hsz
/-- append(row of bytes, string...). -/
theorem wl_appS {s : ByteArray} {L' : Value → List Ch} (H : Holds W0 L w) (U : ∀ v', Upd L (BR e v bs) (BR e v' (bs ++ s.data.toList)) (L' v')) (hn : Nat.ble (d + 1) n = true)
    (ht : P.underlying t = some (.slice e)) (hu : P.underlying u = some .string) (hi : (P.info? e).map (fun i => (i.zero, i.size, i.bytes)) = some (some (.int .u8 0), 1, 1))
    (hs : ev l sx = some v) (hx : ev l x = some (.string s)) (hb : bs.length + s.size ≤ 140737488355328)
    (h : ∀ A c w', Holds W0 (L' (.slice A (bs ++ s.data.toList).length c)) w' → w.heap.size ≤ w'.heap.size → wl P n ops rest Q ((d, .slice A (bs ++ s.data.toList).length c) :: l) w') : wl P n ops (⟨some d, .call { callee := .builtin .append, args := #[sx, x], argTypes := #[t, u] }, ty, pos, af, none⟩ :: rest) Q l w := by
  have e1 : (bs ++ s.data.toList).length = bs.length + s.size := by rw [List.length_append, Array.length_toList]; rfl
  refine wl_appStr (L' := L') (cs := byC bs) (N := bs.length) H (fun v' => ?_) hn ht hu hi hs hx hb fun A c w' H' hsz => ?_
  · have e2 : Raw e 1 v' (bs.length + s.size) (byC bs ++ Lib.strCells s) = BR e v' (bs ++ s.data.toList) := by
      unfold BR
      rw [e1, byC_app]
      rfl
    rw [e2]
    exact U v'
  · rw [← e1] at H' ⊢
    exact h A c w' H' hsz
end
theorem nxt_f {s : ByteArray} {i : Nat} (h : (nxt s i).2.2 = false) : (nxt s i).1 = 0 := by
  unfold nxt at h ⊢
  split at h
  · rename_i h1
    rw [if_pos h1]
  · cases h
section
variable {P : Program} {n : Nat} {l : Fr} {w : World} {x y : Operand} {ty t t2 : TypeId} {pos : String} {af : Array Edge} {gd : Option (Nat × Bool)} {dst : Option Tmp} {a : Nat}
theorem v_quo8 (b : Nat) (hb : 0 < b) (ha : a < 256) (hx : ev l x = some (.int .u8 (a : Int))) (hy : ev l y = some (.int .u8 (b : Int))) : Vs P n l ⟨dst, .binOp .quo t x y t2, ty, pos, af, gd⟩ w (.int .u8 ((a / b : Nat) : Int)) := by
  have h := v_quo (P := P) (n := n) (w := w) (ty := ty) (t := t) (t2 := t2) (pos := pos) (af := af) (gd := gd) (dst := dst) hx hy (by omega)
  have e : Int.tdiv (a : Int) (b : Int) = ((a / b : Nat) : Int) := by rw [Int.tdiv_eq_ediv_of_nonneg (by omega)]; rfl
  rwa [e, w8 (Nat.lt_of_le_of_lt (Nat.div_le_self _ _) ha)] at h
theorem v_rem8 (b : Nat) (hb : 0 < b) (hx : ev l x = some (.int .u8 (a : Int))) (hy : ev l y = some (.int .u8 (b : Int))) : Vs P n l ⟨dst, .binOp .rem t x y t2, ty, pos, af, gd⟩ w (.int .u8 ((a % b : Nat) : Int)) := by
  have h := v_rem (P := P) (n := n) (w := w) (ty := ty) (t := t) (t2 := t2) (pos := pos) (af := af) (gd := gd) (dst := dst) hx hy (by omega)
  have e : Int.tmod (a : Int) (b : Int) = ((a % b : Nat) : Int) := by rw [Int.tmod_eq_emod_of_nonneg (by omega)]; rfl
  rwa [e] at h
end
/-- A row of bytes, as it reads. -/
theorem Holds.brAt {W0 w : World} {L : List Ch} {e n c : Nat} {A : Option Addr} {l : List UInt8} (H : Holds W0 L w) (U : Upd L (BR e (.slice A n c) l) (BR e (.slice A n c) l) L) : (0 < l.length → A = some (adr A)) ∧ ∀ j u, (byC l)[j]? = some u → w.cell? ((adr A).add j) = some u := by
  obtain ⟨A', c', h, _, h2, h3⟩ := own_slice (H.raw U)
  injection h with h1 _ _
  subst h1
  exact ⟨h2, h3⟩
end Go.Proofs.YtgdemplcpcacaaaFx

/-! Rows of bytes of the call's own, behind whose end a mark may lie (what a conversion of a string leaves). -/
namespace Go.Proofs.YtgdemplcpcacaaaFx
open Go Go.RowKit
theorem run_storeCells_atM (P : Program) (g o : Nat) (t : TypeId) (fz : Nat × Nat) : ∀ (vs : List Value) (i : Nat) (cur : Array Value) (w : World), w.heap[g]? = some (.cells cur t fz) → (fz.2 = 0 ∨ cur.size ≤ fz.1) → o + i + vs.length ≤ cur.size → (∀ v ∈ vs, v.oneCell' = true) →
    (storeCells ⟨g, o, none⟩ vs i).run P w = .ok () (w.setRow g (cur.toList.take (o + i) ++ vs ++ cur.toList.drop (o + i + vs.length)).toArray)
  | [], i, cur, w, hg, _, _, _ => by
    simp only [storeCells, List.append_nil, List.length_nil, Nat.add_zero, List.take_append_drop, Array.toArray_toList]
    rw [setRow_self w g cur t fz hg]
    rfl
  | v :: rest, i, cur, w, hg, hfz, hl, h1 => by
    have hi : o + i < cur.size := by simp at hl; omega
    have hadd : (⟨g, o, none⟩ : Addr).add i = ⟨g, o + i, none⟩ := by unfold Addr.add; split <;> simp_all
    have hcell : w.cell? ⟨g, o + i, none⟩ = some cur[o + i] := by simp [World.cell?, hg, hi]
    have hfro : w.frozen? ⟨g, o + i, none⟩ = false := by
      obtain ⟨lo, hi'⟩ := fz
      simp only [World.frozen?, hg, Bool.and_eq_false_iff, decide_eq_false_iff_not]
      simp only at hfz
      omega
    have hst : (store ((⟨g, o, none⟩ : Addr).add i) v).run P w = .ok () (w.setRow g (cur.setIfInBounds (o + i) v)) := by
      rw [hadd, run_store P w _ v _ (h1 v (by simp)), hcell]
      simp [hfro, setCell_eq_setRow w g (o + i) cur t fz v hg]
    have ih := run_storeCells_atM P g o t fz rest (i + 1) (cur.setIfInBounds (o + i) v) (w.setRow g (cur.setIfInBounds (o + i) v)) (setRow_heap w g cur _ t _ hg) (by simpa using hfz) (by simp at hl ⊢; omega) (fun x hx => h1 x (by simp [hx]))
    simp only [storeCells, Sem.run_bind, hst, Result.andThen_ok, ih, setRow_setRow]
    congr 3
    have e := list_seg_step cur.toList (o + i) v rest (by simp at hl ⊢; omega)
    simpa [Array.toList_setIfInBounds, Nat.add_assoc] using e
theorem heap_lt_alloc (w : World) (o : Obj) : w.heap.size < (w.alloc o).heap.size := by
  show _ < (w.heap.push o).size
  simp
/-- A row of bytes; a mark may lie behind it. -/
def MR (e : TypeId) (g cap : Nat) (l : List UInt8) : Ch where
  p := fun w S => S g ∧ ∃ cur fz, w.heap[g]? = some (.cells cur e fz) ∧ (fz.2 = 0 ∨ cur.size ≤ fz.1) ∧ l.length ≤ cap ∧ cap ≤ maxLen ∧ cur.size = cap ∧ cur.toList.take l.length = byC l
  st := fun h hp => ⟨hp.1, by
    obtain ⟨cur, fz, h1, r⟩ := hp.2
    exact ⟨cur, fz, (h _ hp.1).trans h1, r⟩⟩
theorem adr_some (g : Nat) : adr (some ⟨g, 0, none⟩) = ⟨g, 0, none⟩ := rfl
theorem mr_cells {w : World} {e g cap : Nat} {l : List UInt8} (h : ∃ cur fz, w.heap[g]? = some (.cells cur e fz) ∧ (fz.2 = 0 ∨ cur.size ≤ fz.1) ∧ l.length ≤ cap ∧ cap ≤ maxLen ∧ cur.size = cap ∧ cur.toList.take l.length = byC l) : ∀ j u, (byC l)[j]? = some u → w.cell? ((⟨g, 0, none⟩ : Addr).add j) = some u := by
  intro j u hu
  obtain ⟨cur, fz, hgg, _, _, _, _, ht⟩ := h
  have hadd : (⟨g, 0, none⟩ : Addr).add j = ⟨g, j, none⟩ := by unfold Addr.add; split <;> simp_all
  rw [hadd, cell_of_row w g j cur e fz hgg]
  rw [← ht, List.getElem?_take] at hu
  split at hu
  · simpa using hu
  · cases hu
theorem Holds.mrAt {W0 w : World} {L : List Ch} {e g c : Nat} {l : List UInt8} (H : Holds W0 L w) (U : Upd L (MR e g c l) (MR e g c l) L) : ∀ j u, (byC l)[j]? = some u → w.cell? ((adr (some ⟨g, 0, none⟩)).add j) = some u := by
  obtain ⟨_, _, _, h⟩ := H.get U
  exact mr_cells h
theorem Holds.litM {W0 w : World} {L : List Ch} {b e : Nat} {l : List UInt8} (H : Holds W0 (Blk b e (byC l) :: L) w) (hm : l.length ≤ maxLen) : Holds W0 (MR e b l.length l :: L) w :=
  H.head_imp fun S (h : S b ∧ w.heap[b]? = some (.cells (byC l).toArray e (0, 0))) => ⟨h.1, _, _, h.2, .inl rfl, Nat.le_refl _, hm, by simpa using byC_len l, by
    have := byC_len l
    rw [← this]
    simp⟩
section
variable {P : Program} {n : Nat} {Q : Post} {l : Fr} {w W0 : World} {L : List Ch} {ops : Array Oper} {rest : List Oper} {d g cap : Nat} {x sx : Operand} {ty t e t2 : TypeId} {pos : String} {af : Array Edge} {bs ys : List UInt8}
theorem vw_app {gd : Option (Nat × Bool)} {dst : Option Tmp} {v1 v2 v3 : Value} {w' : World} (hs : ev l sx = some v1) (hx : ev l x = some v2) (hr : (Builtin.append_ #[t, t] ty #[v1, v2]).run P w = .ok v3 w') : Vw P n l ⟨dst, .call { callee := .builtin .append, args := #[sx, x], argTypes := #[t, t] }, ty, pos, af, gd⟩ w v3 w' := fun a ha => by
  simp [execOp, resolve, invoke, builtin, ha.eval hs, ha.eval hx, hr]
/-- append(row, bytes...). -/
theorem wl_appM {z : Value} {ad : Addr} {c : Nat} {L' : Nat → Nat → List Ch} (H : Holds W0 L w) (U : ∀ g' c', Upd L (MR e g cap bs) (MR e g' c' (bs ++ ys)) (L' g' c')) (hn : Nat.ble (d + 1) n = true)
    (ht : P.underlying t = some (.slice e)) (hi : (P.info? e).map (fun i => (i.zero, i.size, i.bytes)) = some (some z, 1, 1)) (hz : z.cells.size = 1)
    (hs : ev l sx = some (.slice (some ⟨g, 0, none⟩) bs.length cap)) (hx : ev l x = some (.slice (some ad) ys.length c)) (hc : ∀ j u, (byC ys)[j]? = some u → w.cell? (ad.add j) = some u) (hb : bs.length + ys.length ≤ 140737488355328)
    (h : ∀ g' c' w', Holds W0 (L' g' c') w' → w.heap.size ≤ w'.heap.size → wl P n ops rest Q ((d, .slice (some ⟨g', 0, none⟩) (bs ++ ys).length c') :: l) w') : wl P n ops (⟨some d, .call { callee := .builtin .append, args := #[sx, x], argTypes := #[t, t] }, ty, pos, af, none⟩ :: rest) Q l w := by
  obtain ⟨i0, hi1, hi2⟩ := Option.map_eq_some_iff.1 hi
  simp only [Prod.mk.injEq] at hi2
  obtain ⟨g1, g2, g3⟩ := hi2
  obtain ⟨S, hS, ⟨hSv, cur, fz, hgg, hfz, hnc, hcm, hcs, htake⟩, hstep⟩ := H.upd (U 0 0)
  have hl1 : (bs ++ ys).length = bs.length + ys.length := List.length_append
  have hyl := byC_len ys
  have hbl := byC_len bs
  have hgs : g < w.heap.size := (Array.getElem?_eq_some_iff.1 hgg).1
  by_cases hroom : bs.length + ys.length ≤ cap
  · have hf := run_firstCells_some (P := P) w 1 ys.length ad ys.length c (byC ys) (by omega) hc
    have hst := run_storeCells_atM P g bs.length e fz (byC ys) 0 cur w hgg hfz (by omega) (byC_one ys)
    simp only [Nat.add_zero] at hst
    have hr : (Builtin.append_ #[t, t] ty #[.slice (some ⟨g, 0, none⟩) bs.length cap, .slice (some ad) ys.length c]).run P w =
      .ok (.slice (some ⟨g, 0, none⟩) (bs.length + ys.length) cap) (w.setRow g (cur.toList.take bs.length ++ byC ys ++ cur.toList.drop (bs.length + (byC ys).length)).toArray) := by
      have hf' := run_firstCells_some (P := P) w i0.size ys.length ad ys.length c (byC ys) (by rw [g2]; omega) hc
      simp [Builtin.append_, run_underlying ht, sizeOf, typeInfo, hi1, g2, Builtin.lenOf, hroom, Addr.add_lit, hst, hf]
    refine wl_v rfl rfl hn (vw_app hs hx hr) ?_
    rw [← hl1]
    refine h g cap _ ?_ (by simp)
    obtain ⟨S2, hS2, ⟨hSv2, _⟩, hstep2⟩ := H.upd (U g cap)
    refine hstep2 _ S2 rfl rfl rfl (by simp) (fun k hk hnk => setRow_other w g k _ (fun e => hnk (e ▸ hSv2))) (fun k hk => .inl hk) ⟨hSv2, _, fz, setRow_heap w g cur _ e _ hgg, ?_, by omega, hcm, ?_, ?_⟩
    · rcases hfz with h0 | h0
      · exact .inl h0
      · refine .inr ?_
        simp only [List.size_toArray, List.length_append, List.length_take, List.length_drop, Array.length_toList]
        omega
    · simp only [List.size_toArray, List.length_append, List.length_take, List.length_drop, Array.length_toList]
      omega
    · rw [htake, byC_app, hl1, ← hyl, ← hbl, ← List.length_append]
      show List.take (byC bs ++ byC ys).length (byC bs ++ byC ys ++ List.drop _ cur.toList) = _
      exact List.take_left' rfl
  · have hr := run_append_grow (P := P) w t ty e i0 z ht hi1 g1 ⟨g, 0, none⟩ bs.length cap (byC bs) (by rw [g2]; omega) (mr_cells ⟨cur, fz, hgg, hfz, hnc, hcm, hcs, htake⟩) ad ys.length c (byC ys) (by rw [g2]; omega) hc (by omega) (by omega) (by rw [g3]; exact growslice_fits (by omega) (by omega))
    have hge := grownCap_ge w (bs.length + ys.length) cap e
    have hcm2 : grownCap w (bs.length + ys.length) cap e ≤ maxLen := grownCap_le_maxLen w (bs.length + ys.length) cap e (by unfold maxLen; omega)
    refine wl_v rfl rfl hn (vw_app hs hx hr) ?_
    rw [← hl1] at hge hcm2 ⊢
    refine h w.heap.size (grownCap w (bs ++ ys).length cap e) _ ?_ (Nat.le_of_lt (heap_lt_alloc w.drew _))
    obtain ⟨S2, hS2, _, hstep2⟩ := H.upd (U w.heap.size (grownCap w (bs ++ ys).length cap e))
    refine hstep2 (w.drew.alloc _) (fun k => k = w.heap.size) rfl rfl rfl (by simp) (fun k hk _ => heap_alloc_old w.drew _ k hk) (fun k hk => .inr ⟨by omega, by subst hk; simp⟩) ⟨rfl, _, (0, 0), heap_alloc_new w.drew _, .inl rfl, by omega, hcm2, ?_, ?_⟩
    · simp only [Array.size_append, List.size_toArray, size_zeroCells, hz, hyl, hbl]
      omega
    · simp only [Array.toList_append, List.append_assoc]
      rw [← List.append_assoc, byC_app, hl1, ← hyl, ← hbl, ← List.length_append]
      exact List.take_left' rfl
/-- `[]byte(s)`. -/
theorem wl_convSB {s : ByteArray} {u : TypeDesc} (H : Holds W0 L w) (hn : Nat.ble (d + 1) n = true) (hs : P.underlying t = some u) (hd : P.underlying t2 = some (.slice e)) (he : P.underlying e = some (.int .u8)) (hx : ev l x = some (.string s)) (hb : s.size ≤ 140737488355328)
    (h : ∀ g c w', w.heap.size ≤ g → Holds W0 (MR e g c s.data.toList :: L) w' → w.heap.size ≤ w'.heap.size → wl P n ops rest Q ((d, .slice (some ⟨g, 0, none⟩) s.data.toList.length c) :: l) w') : wl P n ops (⟨some d, .convert t t2 x, ty, pos, af, none⟩ :: rest) Q l w := by
  have hr := Lib.run_convert_string_bytes (P := P) w t t2 e s hs hd he
  have hsl : s.data.toList.length = s.size := rfl
  have hge := grownCap_ge w s.size 0 e
  have hcm2 : grownCap w s.size 0 e ≤ maxLen := grownCap_le_maxLen w s.size 0 e (by unfold maxLen; omega)
  have hcz : (Lib.bytesCells w e s).size = grownCap w s.size 0 e := by
    have h0 : s.data.size = s.size := rfl
    simp only [Lib.bytesCells, Array.size_append, Array.size_map, Array.size_replicate]
    omega
  refine wl_v rfl rfl hn (w' := Lib.bytesWorld w e s) (v := .slice (some ⟨w.heap.size, 0, none⟩) s.size (grownCap w s.size 0 e)) (fun a ha => by simp [execOp, ha.eval hx, hr]) (h w.heap.size _ _ (Nat.le_refl _) ?_ (by rw [Lib.bytesWorld_size]; omega))
  refine H.push' (S := fun k => k = w.heap.size) ⟨rfl, rfl, rfl, by rw [Lib.bytesWorld_size]; omega, fun k hk => Lib.bytesWorld_at_old w e s k hk⟩ (fun k hk => by rw [Lib.bytesWorld_size]; omega) ⟨rfl, _, _, Lib.bytesWorld_at_new w e s, .inr (Nat.le_refl _), by omega, hcm2, hcz, ?_⟩
  show List.take s.data.toList.length (Lib.bytesCells w e s).toList = _
  have e1 : (Lib.bytesCells w e s).toList = byC s.data.toList ++ List.replicate (grownCap w s.size 0 e - s.size) (.int .u8 0) := by
    simp [Lib.bytesCells, byC, Lib.byteCells]
  rw [e1]
  have := byC_len s.data.toList
  rw [← this]
  exact List.take_left
end
end Go.Proofs.YtgdemplcpcacaaaFx

/-! Runes and their bytes: the document's answer. -/
namespace Go.Proofs.Ytgdemplcpcacaaa.RuneW
open Go Go.RowKit Go.Proofs.YtgdemplcpcacaaaFx 
theorem sz5 : ∀ W, (sizeOf 5).run Try.prog W = .ok 1 W := size_of (by kernel_rfl)
theorem zv5 : ∀ W, (zeroValue 5).run Try.prog W = .ok (.int .u8 0) W := zero_of (by kernel_rfl)

set_option maxRecDepth 100000 in
theorem rune_calls {r : Int} {w : World} : Calls Try.prog 97 #[.int .i32 r] w fun e w' => ∃ v, e = .returned v ∧ v = .bool (Utf8.valid r) ∧ Holds w [] w' := by
  refine calls_of Try.func97 rfl Try.ntmps97 rfl ?_
  have H := Holds.start w
  refine wcR ?_
  refine wA ?_
  refine wl_nil ?_
  refine wcR ?_
  refine wM ?_
  refine wV (v_geq rfl rfl) ?_
  refine wM ?_
  refine wl_guard rfl rfl rfl (fun g5 => ?_) (fun g5 => ?_)
  rotate_left
  ·have g5p := oF g5
   refine wF g5 ?_
   refine wV (v_pick_f rfl g5 rfl) ?_
   refine wM ?_
   refine wF rfl ?_
   refine wF rfl ?_
   refine wF rfl ?_
   refine wl_offu rfl rfl rfl ?_
   refine wl_offu rfl rfl rfl ?_
   refine wF rfl ?_
   refine wV (v_pick_f rfl rfl rfl) ?_
   refine wA ?_
   refine wl_nil ?_
   refine wc_ret ?_
   rw [valid_dec]
   first
     | exact ⟨_, res1 rfl rfl, congrArg Value.bool (dec_t (.inl ⟨g5p, g12p⟩)).symm, H.pm (Pm.nil _)⟩
     | exact ⟨_, res1 rfl rfl, congrArg Value.bool (dec_eq ⟨fun hd => (by have h_ := oT hd; exact .inr ⟨by omega, by omega⟩), fun hh => decide_eq_true (by omega)⟩), H.pm (Pm.nil _)⟩
     | exact ⟨_, res1 rfl rfl, congrArg Value.bool (dec_f fun hh => by omega).symm, H.pm (Pm.nil _)⟩
  have g5p := oT g5
  refine wM ?_
  refine wO g5 ?_
  refine wV (v_leq rfl rfl) ?_
  refine wV (v_pick_t rfl g5 rfl) ?_
  refine wM ?_
  refine wl_guard rfl rfl rfl (fun g9 => ?_) (fun g9 => ?_)
  rotate_left
  ·have g9p := oF g9
   refine wF g9 ?_
   refine wF g9 ?_
   refine wl_offu rfl rfl rfl ?_
   refine wl_offu rfl rfl rfl ?_
   refine wF g9 ?_
   refine wV (v_pick_f rfl g9 rfl) ?_
   refine wA ?_
   refine wl_nil ?_
   refine wc_ret ?_
   rw [valid_dec]
   first
     | exact ⟨_, res1 rfl rfl, congrArg Value.bool (dec_t (.inl ⟨g5p, g12p⟩)).symm, H.pm (Pm.nil _)⟩
     | exact ⟨_, res1 rfl rfl, congrArg Value.bool (dec_eq ⟨fun hd => (by have h_ := oT hd; exact .inr ⟨by omega, by omega⟩), fun hh => decide_eq_true (by omega)⟩), H.pm (Pm.nil _)⟩
     | exact ⟨_, res1 rfl rfl, congrArg Value.bool (dec_f fun hh => by omega).symm, H.pm (Pm.nil _)⟩
  have g9p := oT g9
  refine wM ?_
  refine wO g9 ?_
  refine wV (v_lss rfl rfl) ?_
  refine wO g9 ?_
  refine wM ?_
  refine wl_guard rfl rfl rfl (fun g12 => ?_) (fun g12 => ?_)
  rotate_left
  ·have g12p := oT g12
   refine wF g12 ?_
   refine wO g9 ?_
   refine wV (v_pick_t rfl g12 rfl) ?_
   refine wV (v_pick_t rfl g9 rfl) ?_
   refine wA ?_
   refine wl_nil ?_
   refine wc_ret ?_
   rw [valid_dec]
   first
     | exact ⟨_, res1 rfl rfl, congrArg Value.bool (dec_t (.inl ⟨g5p, g12p⟩)).symm, H.pm (Pm.nil _)⟩
     | exact ⟨_, res1 rfl rfl, congrArg Value.bool (dec_eq ⟨fun hd => (by have h_ := oT hd; exact .inr ⟨by omega, by omega⟩), fun hh => decide_eq_true (by omega)⟩), H.pm (Pm.nil _)⟩
     | exact ⟨_, res1 rfl rfl, congrArg Value.bool (dec_f fun hh => by omega).symm, H.pm (Pm.nil _)⟩
  have g12p := oF g12
  refine wM ?_
  refine wO g12 ?_
  refine wV (v_gtr rfl rfl) ?_
  refine wO g9 ?_
  refine wV (v_pick_f rfl g12 rfl) ?_
  refine wV (v_pick_t rfl g9 rfl) ?_
  refine wA ?_
  refine wl_nil ?_
  refine wc_ret ?_
  rw [valid_dec]
  first
    | exact ⟨_, res1 rfl rfl, congrArg Value.bool (dec_t (.inl ⟨g5p, g12p⟩)).symm, H.pm (Pm.nil _)⟩
    | exact ⟨_, res1 rfl rfl, congrArg Value.bool (dec_eq ⟨fun hd => (by have h_ := oT hd; exact .inr ⟨by omega, by omega⟩), fun hh => decide_eq_true (by omega)⟩), H.pm (Pm.nil _)⟩
    | exact ⟨_, res1 rfl rfl, congrArg Value.bool (dec_f fun hh => by omega).symm, H.pm (Pm.nil _)⟩

set_option maxHeartbeats 1600000 in
set_option maxRecDepth 100000 in
theorem rbytes_calls {c : Nat} {w0 w : World} {L : List Ch} (hc : c ≤ 1114111) (HH : Holds w0 L w) : Calls Try.prog 98 #[.int .i32 (c : Int)] w fun e w' => ∃ v, e = .returned v ∧ ∃ b : Nat, v = .slice (some ⟨b, 0, none⟩) (encL c).length (encL c).length ∧ Holds w0 (Blk b 5 (byC (encL c)) :: L) w' := by
  refine calls_of Try.func98 rfl Try.ntmps98 rfl ?_
  have H := HH
  refine wcR ?_
  refine wA ?_
  refine wl_nil ?_
  refine wcR ?_
  refine wM ?_
  refine wV (v_to32 (by omega) Try.underlying21 Try.underlying173 rfl) ?_
  refine wA ?_
  refine wl_nil ?_
  refine wc_seq ?_
  refine wc_block ?_
  refine wcR ?_
  refine wM ?_
  refine wV (v_leq rfl rfl) ?_
  refine wA ?_
  refine wl_nil ?_
  refine wc_cond rfl (fun c0 => ?_) (fun c0 => ?_)
  ·have c0p := oT c0
   refine wcR ?_
   refine wM ?_
   refine wV (v_to8 (by omega) Try.underlying173 Try.underlying5 rfl) ?_
   refine wl_slit (v := .int .u8 0) (z := [.int .u8 0]) (cs := [.int .u8 ((UInt8.ofNat (c)).toNat : Int)]) (sz := 1) H rfl Try.underlying88 sz5 zv5 (by decide) (by decide) (by kernel_rfl) rfl (by repeat constructor) ?_
   intro b11 w3 hb11 H3 hs3
   refine wA ?_
   refine wl_nil ?_
   refine wc_ret ?_
   first
     | (have q_ := c0p
        first
          | (have e_ : encL c = [UInt8.ofNat c] := by unfold encL; rw [if_pos (by omega)]
             exact ⟨_, res1 rfl rfl, _, by rw [e_]; rfl, by rw [e_]; exact H3⟩)
          | (have e_ : encL c = [UInt8.ofNat (192 + c / 64), UInt8.ofNat (128 + c % 64)] := by unfold encL; rw [if_neg (by omega), if_pos (by omega)]
             exact ⟨_, res1 rfl rfl, _, by rw [e_]; rfl, by rw [e_]; exact H3⟩)
          | (have e_ : encL c = [UInt8.ofNat (224 + c / 4096), UInt8.ofNat (128 + c / 64 % 64), UInt8.ofNat (128 + c % 64)] := by unfold encL; rw [if_neg (by omega), if_neg (by omega), if_pos (by omega)]
             exact ⟨_, res1 rfl rfl, _, by rw [e_]; rfl, by rw [e_]; exact H3⟩)
          | (have e_ : encL c = [UInt8.ofNat (240 + c / 262144), UInt8.ofNat (128 + c / 4096 % 64), UInt8.ofNat (128 + c / 64 % 64), UInt8.ofNat (128 + c % 64)] := by unfold encL; rw [if_neg (by omega), if_neg (by omega), if_neg (by omega)]
             exact ⟨_, res1 rfl rfl, _, by rw [e_]; rfl, by rw [e_]; exact H3⟩))
  have c0p := oF c0
  refine wcR ?_
  refine wM ?_
  refine wV (v_leq rfl rfl) ?_
  refine wA ?_
  refine wl_nil ?_
  refine wc_cond rfl (fun c1 => ?_) (fun c1 => ?_)
  ·have c1p := oT c1
   refine wcR ?_
   refine wM ?_
   refine wV (v_quoN 64 (by decide) (by omega) rfl rfl) ?_
   refine wV (v_addN (a := 192) (c / 64) (by omega) rfl rfl) ?_
   refine wV (v_to8 (by omega) Try.underlying173 Try.underlying5 rfl) ?_
   refine wM ?_
   refine wV (v_remN 64 (by decide) rfl rfl) ?_
   refine wV (v_addN (a := 128) (c % 64) (by omega) rfl rfl) ?_
   refine wV (v_to8 (by omega) Try.underlying173 Try.underlying5 rfl) ?_
   refine wl_slit (v := .int .u8 0) (z := [.int .u8 0, .int .u8 0]) (cs := [.int .u8 ((UInt8.ofNat (192 + c / 64)).toNat : Int), .int .u8 ((UInt8.ofNat (128 + c % 64)).toNat : Int)]) (sz := 1) H rfl Try.underlying88 sz5 zv5 (by decide) (by decide) (by kernel_rfl) rfl (by repeat constructor) ?_
   intro b23 w10 hb23 H10 hs10
   refine wA ?_
   refine wl_nil ?_
   refine wc_ret ?_
   first
     | (have q_ := c0p
        first
          | (have e_ : encL c = [UInt8.ofNat c] := by unfold encL; rw [if_pos (by omega)]
             exact ⟨_, res1 rfl rfl, _, by rw [e_]; rfl, by rw [e_]; exact H10⟩)
          | (have e_ : encL c = [UInt8.ofNat (192 + c / 64), UInt8.ofNat (128 + c % 64)] := by unfold encL; rw [if_neg (by omega), if_pos (by omega)]
             exact ⟨_, res1 rfl rfl, _, by rw [e_]; rfl, by rw [e_]; exact H10⟩)
          | (have e_ : encL c = [UInt8.ofNat (224 + c / 4096), UInt8.ofNat (128 + c / 64 % 64), UInt8.ofNat (128 + c % 64)] := by unfold encL; rw [if_neg (by omega), if_neg (by omega), if_pos (by omega)]
             exact ⟨_, res1 rfl rfl, _, by rw [e_]; rfl, by rw [e_]; exact H10⟩)
          | (have e_ : encL c = [UInt8.ofNat (240 + c / 262144), UInt8.ofNat (128 + c / 4096 % 64), UInt8.ofNat (128 + c / 64 % 64), UInt8.ofNat (128 + c % 64)] := by unfold encL; rw [if_neg (by omega), if_neg (by omega), if_neg (by omega)]
             exact ⟨_, res1 rfl rfl, _, by rw [e_]; rfl, by rw [e_]; exact H10⟩))
  have c1p := oF c1
  refine wcR ?_
  refine wM ?_
  refine wV (v_leq rfl rfl) ?_
  refine wA ?_
  refine wl_nil ?_
  refine wc_cond rfl (fun c2 => ?_) (fun c2 => ?_)
  ·have c2p := oT c2
   refine wcR ?_
   refine wM ?_
   refine wV (v_quoN 4096 (by decide) (by omega) rfl rfl) ?_
   refine wV (v_addN (a := 224) (c / 4096) (by omega) rfl rfl) ?_
   refine wV (v_to8 (by omega) Try.underlying173 Try.underlying5 rfl) ?_
   refine wM ?_
   refine wV (v_quoN 64 (by decide) (by omega) rfl rfl) ?_
   refine wV (v_remN 64 (by decide) rfl rfl) ?_
   refine wV (v_addN (a := 128) (c / 64 % 64) (by omega) rfl rfl) ?_
   refine wV (v_to8 (by omega) Try.underlying173 Try.underlying5 rfl) ?_
   refine wM ?_
   refine wV (v_remN 64 (by decide) rfl rfl) ?_
   refine wV (v_addN (a := 128) (c % 64) (by omega) rfl rfl) ?_
   refine wV (v_to8 (by omega) Try.underlying173 Try.underlying5 rfl) ?_
   refine wl_slit (v := .int .u8 0) (z := [.int .u8 0, .int .u8 0, .int .u8 0]) (cs := [.int .u8 ((UInt8.ofNat (224 + c / 4096)).toNat : Int), .int .u8 ((UInt8.ofNat (128 + c / 64 % 64)).toNat : Int), .int .u8 ((UInt8.ofNat (128 + c % 64)).toNat : Int)]) (sz := 1) H rfl Try.underlying88 sz5 zv5 (by decide) (by decide) (by kernel_rfl) rfl (by repeat constructor) ?_
   intro b40 w21 hb40 H21 hs21
   refine wA ?_
   refine wl_nil ?_
   refine wc_ret ?_
   first
     | (have q_ := c0p
        first
          | (have e_ : encL c = [UInt8.ofNat c] := by unfold encL; rw [if_pos (by omega)]
             exact ⟨_, res1 rfl rfl, _, by rw [e_]; rfl, by rw [e_]; exact H21⟩)
          | (have e_ : encL c = [UInt8.ofNat (192 + c / 64), UInt8.ofNat (128 + c % 64)] := by unfold encL; rw [if_neg (by omega), if_pos (by omega)]
             exact ⟨_, res1 rfl rfl, _, by rw [e_]; rfl, by rw [e_]; exact H21⟩)
          | (have e_ : encL c = [UInt8.ofNat (224 + c / 4096), UInt8.ofNat (128 + c / 64 % 64), UInt8.ofNat (128 + c % 64)] := by unfold encL; rw [if_neg (by omega), if_neg (by omega), if_pos (by omega)]
             exact ⟨_, res1 rfl rfl, _, by rw [e_]; rfl, by rw [e_]; exact H21⟩)
          | (have e_ : encL c = [UInt8.ofNat (240 + c / 262144), UInt8.ofNat (128 + c / 4096 % 64), UInt8.ofNat (128 + c / 64 % 64), UInt8.ofNat (128 + c % 64)] := by unfold encL; rw [if_neg (by omega), if_neg (by omega), if_neg (by omega)]
             exact ⟨_, res1 rfl rfl, _, by rw [e_]; rfl, by rw [e_]; exact H21⟩))
  have c2p := oF c2
  refine wc_skip ?_
  refine wcR ?_
  refine wM ?_
  refine wV (v_quoN 262144 (by decide) (by omega) rfl rfl) ?_
  refine wV (v_addN (a := 240) (c / 262144) (by omega) rfl rfl) ?_
  refine wV (v_to8 (by omega) Try.underlying173 Try.underlying5 rfl) ?_
  refine wM ?_
  refine wV (v_quoN 4096 (by decide) (by omega) rfl rfl) ?_
  refine wV (v_remN 64 (by decide) rfl rfl) ?_
  refine wV (v_addN (a := 128) (c / 4096 % 64) (by omega) rfl rfl) ?_
  refine wV (v_to8 (by omega) Try.underlying173 Try.underlying5 rfl) ?_
  refine wM ?_
  refine wV (v_quoN 64 (by decide) (by omega) rfl rfl) ?_
  refine wV (v_remN 64 (by decide) rfl rfl) ?_
  refine wV (v_addN (a := 128) (c / 64 % 64) (by omega) rfl rfl) ?_
  refine wV (v_to8 (by omega) Try.underlying173 Try.underlying5 rfl) ?_
  refine wM ?_
  refine wV (v_remN 64 (by decide) rfl rfl) ?_
  refine wV (v_addN (a := 128) (c % 64) (by omega) rfl rfl) ?_
  refine wV (v_to8 (by omega) Try.underlying173 Try.underlying5 rfl) ?_
  refine wl_slit (v := .int .u8 0) (z := [.int .u8 0, .int .u8 0, .int .u8 0, .int .u8 0]) (cs := [.int .u8 ((UInt8.ofNat (240 + c / 262144)).toNat : Int), .int .u8 ((UInt8.ofNat (128 + c / 4096 % 64)).toNat : Int), .int .u8 ((UInt8.ofNat (128 + c / 64 % 64)).toNat : Int), .int .u8 ((UInt8.ofNat (128 + c % 64)).toNat : Int)]) (sz := 1) H rfl Try.underlying88 sz5 zv5 (by decide) (by decide) (by kernel_rfl) rfl (by repeat constructor) ?_
  intro b59 w36 hb59 H36 hs36
  refine wA ?_
  refine wl_nil ?_
  refine wc_ret ?_
  first
    | (have q_ := c0p
       first
         | (have e_ : encL c = [UInt8.ofNat c] := by unfold encL; rw [if_pos (by omega)]
            exact ⟨_, res1 rfl rfl, _, by rw [e_]; rfl, by rw [e_]; exact H36⟩)
         | (have e_ : encL c = [UInt8.ofNat (192 + c / 64), UInt8.ofNat (128 + c % 64)] := by unfold encL; rw [if_neg (by omega), if_pos (by omega)]
            exact ⟨_, res1 rfl rfl, _, by rw [e_]; rfl, by rw [e_]; exact H36⟩)
         | (have e_ : encL c = [UInt8.ofNat (224 + c / 4096), UInt8.ofNat (128 + c / 64 % 64), UInt8.ofNat (128 + c % 64)] := by unfold encL; rw [if_neg (by omega), if_neg (by omega), if_pos (by omega)]
            exact ⟨_, res1 rfl rfl, _, by rw [e_]; rfl, by rw [e_]; exact H36⟩)
         | (have e_ : encL c = [UInt8.ofNat (240 + c / 262144), UInt8.ofNat (128 + c / 4096 % 64), UInt8.ofNat (128 + c / 64 % 64), UInt8.ofNat (128 + c % 64)] := by unfold encL; rw [if_neg (by omega), if_neg (by omega), if_neg (by omega)]
            exact ⟨_, res1 rfl rfl, _, by rw [e_]; rfl, by rw [e_]; exact H36⟩))
end Go.Proofs.Ytgdemplcpcacaaa.RuneW

/-! Pieces of texts: the document's answer. -/
namespace Go.Proofs.Ytgdemplcpcacaaa.NextR
open Go Go.RowKit Go.Proofs.YtgdemplcpcacaaaFx Go.Proofs.Ytgdemplcpcacaaa.RuneW
theorem en97 : Enters Try.prog 97 := enters Try.func97 (by kernel_rfl) rfl
theorem en98 : Enters Try.prog 98 := enters Try.func98 (by kernel_rfl) rfl
theorem mixed : Try.prog.follows .mixedOrders = true := by kernel_rfl

set_option maxHeartbeats 6400000 in
set_option maxRecDepth 100000 in
theorem rnext_calls {s : ByteArray} {i : Nat} {w : World} (hs : s.size ≤ 1099511627776) (hi : i < s.size) : Calls Try.prog 90 #[.string s, .int .i64 i] w fun e w' => ∃ v, e = .returned v ∧ v = .tuple #[.int .i32 (nxt s i).1, .int .i64 (nxt s i).2.1, .bool (nxt s i).2.2] ∧ Holds w [] w' := by
  refine calls_of Try.func90 rfl Try.ntmps90 rfl ?_
  have H := Holds.start w
  refine wcR ?_
  refine wA ?_
  refine wA ?_
  refine wA ?_
  refine wl_nil ?_
  refine wc_seq ?_
  refine wcR ?_
  refine wM ?_
  refine wV (v_lss rfl rfl) ?_
  refine wM ?_
  refine wl_guard rfl rfl rfl (fun g12 => ?_) (fun g12 => ?_)
  rotate_left
  ·have g12p := oT g12
   exact absurd g12p (by omega)
  have g12p := oF g12
  refine wM ?_
  refine wO g12 ?_
  refine wM ?_
  refine wO g12 ?_
  refine wV (v_lens Try.underlying9 rfl) ?_
  refine wO g12 ?_
  refine wV (v_geq rfl rfl) ?_
  refine wV (v_pick_f rfl g12 rfl) ?_
  refine wl_nil ?_
  refine wc_cond rfl (fun c0 => ?_) (fun c0 => ?_)
  ·have c0p := oT c0
   exact absurd c0p (by omega)
  have c0p := oF c0
  refine wc_skip ?_
  refine wc_seq ?_
  refine wcR ?_
  refine wA ?_
  refine wl_nil ?_
  refine wc_block ?_
  refine wc_loop (σ := Nat) (fun n => [(0, .string s), (1, .int .i64 i), (7, .int .i64 n)]) (fun n W => ((1 ≤ n ∧ n ≤ 5) ∧ ∀ m, 1 ≤ m → m < n → ¬ isR s i m) ∧ Holds w [] W) (fun n => 5 - n) 1 (sc rfl (sc rfl (sc rfl (sn _)))) ⟨⟨⟨by omega, by omega⟩, fun m h1 h2 => by omega⟩, H⟩ ?_
  rintro n W0 ⟨⟨hn, hno⟩, H⟩
  refine wc_seq ?_
  refine wcR ?_
  refine wM ?_
  refine wV (v_leq rfl rfl) ?_
  refine wM ?_
  refine wl_guard rfl rfl rfl (fun g20 => ?_) (fun g20 => ?_)
  rotate_left
  ·have g20p := oF g20
   refine wF g20 ?_
   refine wF g20 ?_
   refine wF g20 ?_
   refine wF g20 ?_
   refine wF g20 ?_
   refine wV (v_pick_f rfl g20 rfl) ?_
   refine wl_nil ?_
   refine wc_cond_f rfl ?_
   refine wc_exit ?_
   refine wcR ?_
   refine wA ?_
   refine wA ?_
   refine wA ?_
   refine wl_nil ?_
   refine wc_ret ?_
   first
     | exact ⟨_, res3 rfl rfl rfl rfl, by rw [hnx], H.pm (by repeat (first | exact Pm.nil _ | constructor))⟩
     | exact ⟨_, res3 rfl rfl rfl rfl, (by rw [nxt_end hi hno (by omega)]; rfl), H.pm (by repeat (first | exact Pm.nil _ | constructor))⟩
  have g20p := oT g20
  refine wM ?_
  refine wO g20 ?_
  refine wM ?_
  refine wO g20 ?_
  refine wV (v_lens Try.underlying9 rfl) ?_
  refine wO g20 ?_
  refine wM ?_
  refine wO g20 ?_
  refine wV (v_subi rfl rfl (by omega)) ?_
  refine wO g20 ?_
  refine wV (v_leq rfl rfl) ?_
  refine wV (v_pick_t rfl g20 rfl) ?_
  refine wl_nil ?_
  refine wc_cond rfl (fun c1 => ?_) (fun c1 => ?_)
  rotate_left
  ·have c1p := oF c1
   refine wc_exit ?_
   refine wcR ?_
   refine wA ?_
   refine wA ?_
   refine wA ?_
   refine wl_nil ?_
   refine wc_ret ?_
   first
     | exact ⟨_, res3 rfl rfl rfl rfl, by rw [hnx], H.pm (by repeat (first | exact Pm.nil _ | constructor))⟩
     | exact ⟨_, res3 rfl rfl rfl rfl, (by rw [nxt_end hi hno (by omega)]; rfl), H.pm (by repeat (first | exact Pm.nil _ | constructor))⟩
  have c1p := oT c1
  have hnb : n ≤ 4 ∧ i + n ≤ s.size := by omega
  refine wc_skip ?_
  refine wc_seq ?_
  refine wc_block ?_
  refine wcR ?_
  refine wM ?_
  refine wM ?_
  refine wV (v_idxs (i := i) (s := s) Try.underlying9 rfl rfl (by omega)) ?_
  refine wV (v_to32 (a := bt s i 0) (by have := bt_lt s i 0; omega) Try.underlying5 Try.underlying173 rfl) ?_
  refine wA ?_
  refine wl_nil ?_
  refine wc_cut (σ := Unit) (fun q => [(0, .string s), (1, .int .i64 i), (7, .int .i64 n), (8, .int .u32 (acN s i n 0 : Nat))]) (fun q W => Holds w [] W) ?_ ?_
  ·refine wcR ?_
   refine wM ?_
   refine wV (v_gtr rfl rfl) ?_
   refine wl_nil ?_
   refine wc_cond rfl (fun c2 => ?_) (fun c2 => ?_)
   rotate_left
   ·have c2p := oF c2
    refine wc_skip ?_
    first
      | (have e_ : acN s i n 0 = bt s i 0 % 2 ^ (7 - n) := if_pos c2n
         exact ⟨(), (by rw [e_]; exact (sc rfl (sc rfl (sc rfl (sc rfl (sn _)))))), H.pm (by repeat (first | exact Pm.nil _ | constructor))⟩)
      | (have e_ : acN s i n 0 = bt s i 0 := if_neg (by omega)
         exact ⟨(), (by rw [e_]; exact (sc rfl (sc rfl (sc rfl (sc rfl (sn _)))))), H.pm (by repeat (first | exact Pm.nil _ | constructor))⟩)
   have c2p := oT c2
   have c2n : 1 < n := by omega
   refine wc_still mixed (by kernel_rfl) ?_
   have Hd := H.drew
   refine ws_v rfl rfl rfl (v_move rfl) ?_
   refine ws_v rfl rfl rfl (v_move rfl) ?_
   refine ws_v rfl rfl rfl (v_idxs (i := i) (s := s) Try.underlying9 rfl rfl (by omega)) ?_
   refine ws_v rfl rfl rfl (v_to32 (a := bt s i 0) (by have := bt_lt s i 0; omega) Try.underlying5 Try.underlying173 rfl) ?_
   refine ws_v rfl rfl rfl (v_move rfl) ?_
   refine ws_v rfl rfl rfl (v_subi rfl rfl (by omega)) ?_
   refine ws_v rfl rfl rfl (v_shl rfl rfl (by omega) (show (7 : Int) - n ≤ 32 by omega)) ?_
   rw [shl7 c2n (by omega)]
   refine ws_v rfl rfl rfl (v_remN (a := bt s i 0) (2 ^ (7 - n)) (Nat.two_pow_pos _) rfl rfl) ?_
   refine ws_v rfl rfl rfl (v_assign rfl) ?_
   refine ws_nil ?_
   first
     | (have e_ : acN s i n 0 = bt s i 0 % 2 ^ (7 - n) := if_pos c2n
        exact ⟨(), (by rw [e_]; exact (sc rfl (sc rfl (sc rfl (sc rfl (sn _)))))), Hd.pm (by repeat (first | exact Pm.nil _ | constructor))⟩)
     | (have e_ : acN s i n 0 = bt s i 0 := if_neg (by omega)
        exact ⟨(), (by rw [e_]; exact (sc rfl (sc rfl (sc rfl (sc rfl (sn _)))))), Hd.pm (by repeat (first | exact Pm.nil _ | constructor))⟩)
  rintro ⟨⟩ Wm H
  refine wc_seq ?_
  refine wcR ?_
  refine wA ?_
  refine wl_nil ?_
  refine wc_block ?_
  refine wc_loop (σ := Nat) (fun m => [(0, .string s), (1, .int .i64 i), (7, .int .i64 n), (8, .int .u32 (acN s i n m : Nat)), (9, .int .i64 (m + 1 : Nat))]) (fun m W => (m + 1 ≤ n) ∧ Holds w [] W) (fun m => n - m) 0 (sc rfl (sc rfl (sc rfl (sc rfl (sc rfl (sn _)))))) ⟨by omega, H⟩ ?_
  rintro m W1 ⟨hm, H⟩
  refine wc_seq ?_
  refine wcR ?_
  refine wM ?_
  refine wM ?_
  refine wV (v_lss rfl rfl) ?_
  refine wl_nil ?_
  refine wc_cond rfl (fun c3 => ?_) (fun c3 => ?_)
  ·have c3p := oT c3
   have hac := acN_lt s i n m (by omega)
   have hac2 := hac.2 (by omega)
   refine wc_skip ?_
   refine wc_seq ?_
   refine wc_block ?_
   refine wc_region ?_
   refine wM ?_
   refine wV (v_mulN (a := acN s i n m) 64 (by omega) rfl rfl) ?_
   refine wM ?_
   refine wM ?_
   refine wM ?_
   refine wV (v_addi rfl rfl (by omega)) ?_
   refine wV (v_idxs (i := (i + (m + 1))) (s := s) Try.underlying9 rfl rfl (by omega)) ?_
   refine wV (v_to32 (a := bt s i (m + 1)) (by have := bt_lt s i (m + 1); omega) Try.underlying5 Try.underlying173 rfl) ?_
   refine wV (v_remN (a := bt s i (m + 1)) 64 (by decide) rfl rfl) ?_
   refine wV (v_addN (a := acN s i n m * 64) (bt s i (m + 1) % 64) (by omega) rfl rfl) ?_
   refine wA ?_
   refine wl_nil ?_
   refine wc_region ?_
   refine wM ?_
   refine wV (v_addi rfl rfl (by omega)) ?_
   refine wA ?_
   refine wl_nil ?_
   exact ⟨m + 1, (sc rfl (sc rfl (sc rfl (sc rfl (sc rfl (sn _)))))), ⟨by omega, H⟩, by omega⟩
  have c3p := oF c3
  obtain rfl : m = n - 1 := by omega
  rw [acN_cnd (by omega) (by omega)]
  have hcl : cnd s i n < 67108864 := by rw [← acN_cnd (by omega) (by omega)]; exact (acN_lt s i n (n - 1) (by omega)).1
  refine wc_exit ?_
  refine wc_seq ?_
  refine wc_tree [0, 1, 2, 3, 4, 6, 7, 8, 9, 12, 13, 14, 15, 16, 17, 18, 19] (fun W => Holds w [] W) mixed ?_
  have Hd := H.drew
  have HSd : Holds w [] _ := Hd.pm (by repeat constructor)
  refine wjV (k := 0) rfl HSd (fun W HW => v_move rfl) ?_
  refine wjV (k := 1) rfl HSd (fun W HW => v_leq rfl rfl) ?_
  refine wjV (k := 2) rfl HSd (fun W HW => v_move rfl) ?_
  refine wj_guard (dj := 61) rfl (fun g61 => ?_) (fun g61 => ?_)
  rotate_left
  ·have g61p := oF g61
   refine wj_off (k := 3) rfl (by kernel_rfl) (fun _ _ _ h => h) rfl rfl g61 HSd rfl ?_
   refine wj_off (k := 4) rfl (by kernel_rfl) (fun _ _ _ h => h) rfl rfl g61 HSd rfl ?_
   refine wj_t (k := 5) rfl (by kernel_rfl) ?_
   refine wF g61 ?_
   have HS22 : Holds w [] _ := Hd.pm (by repeat constructor)
   refine wl_nil (tn ⟨fun _ => HS22, ?_⟩)
   refine wjV (k := 6) rfl HS22 (fun W HW => v_pick_f rfl g61 rfl) ?_
   refine wjV (k := 7) rfl HS22 (fun W HW => v_move rfl) ?_
   refine wj_off (k := 8) rfl (by kernel_rfl) (fun _ _ _ h => h) rfl rfl rfl HS22 rfl ?_
   refine wj_off (k := 9) rfl (by kernel_rfl) (fun _ _ _ h => h) rfl rfl rfl HS22 rfl ?_
   refine wj_off (k := 12) rfl (by kernel_rfl) (fun _ _ _ h => h) rfl rfl rfl HS22 rfl ?_
   refine wj_off (k := 13) rfl (by kernel_rfl) (fun _ _ _ h => h) rfl rfl rfl HS22 rfl ?_
   refine wj_off (k := 14) rfl (by kernel_rfl) (fun _ _ _ h => h) rfl rfl rfl HS22 rfl ?_
   refine wj_off (k := 15) rfl (by kernel_rfl) (fun _ _ _ h => h) rfl rfl rfl HS22 rfl ?_
   refine wj_off (k := 16) rfl (by kernel_rfl) (fun _ _ _ h => h) rfl rfl rfl HS22 rfl ?_
   refine wj_off (k := 17) rfl (by kernel_rfl) (fun _ _ _ h => h) rfl rfl rfl HS22 rfl ?_
   refine wj_t (k := 10) rfl (by kernel_rfl) ?_
   refine wF rfl ?_
   have HS23 : Holds w [] _ := Hd.pm (by repeat constructor)
   refine wl_nil (tn ⟨fun _ => HS23, ?_⟩)
   refine wj_t (k := 11) rfl (by kernel_rfl) ?_
   refine wF rfl ?_
   have HS24 : Holds w [] _ := Hd.pm (by repeat constructor)
   refine wl_nil (tn ⟨fun _ => HS24, ?_⟩)
   refine wj_off (k := 18) rfl (by kernel_rfl) (fun _ _ _ h => h) rfl rfl rfl HS24 rfl ?_
   refine wjV (k := 19) rfl HS24 (fun W HW => v_pick_f rfl rfl rfl) ?_
   refine wj_done (by kernel_rfl) ?_
   refine wc_cond_f rfl ?_
   refine wc_skip ?_
   refine wc_region ?_
   refine wM ?_
   refine wV (v_addi rfl rfl (by omega)) ?_
   refine wA ?_
   refine wl_nil ?_
   first
     | exact ⟨n + 1, (sc rfl (sc rfl (sc rfl (sn _)))), ⟨⟨⟨by omega, by omega⟩, notR_next hno (notR_big g61p)⟩, Hd.pm (by repeat (first | exact Pm.nil _ | constructor))⟩, by omega⟩
     | exact ⟨n + 1, (sc rfl (sc rfl (sc rfl (sn _)))), ⟨⟨⟨by omega, by omega⟩, notR_next hno (notR_bad g66)⟩, Hd.pm (by repeat (first | exact Pm.nil _ | constructor))⟩, by omega⟩
     | exact ⟨n + 1, (sc rfl (sc rfl (sc rfl (sn _)))), ⟨⟨⟨by omega, by omega⟩, notR_next hno (notR_ne c4p)⟩, Hd.pm (by repeat (first | exact Pm.nil _ | constructor))⟩, by omega⟩
  have g61p := oT g61
  refine wj_vg (k := 3) rfl (by kernel_rfl) (fun _ _ _ h => h) rfl rfl g61 HSd rfl (fun W HW => v_move rfl) ?_
  refine wj_vg (k := 4) rfl (by kernel_rfl) (fun _ _ _ h => h) rfl rfl g61 HSd rfl (fun W HW => v_toI32 (a := cnd s i n) (by omega) Try.underlying173 Try.underlying21 rfl) ?_
  refine wj_t (k := 5) rfl (by kernel_rfl) ?_
  refine wO g61 ?_
  refine wl_call en97 rfl rfl (rune_calls) ?_
  rintro _ w12 ⟨rfl, Hc⟩
  have H13 := Hd.call0 Hc
  have HS14 : Holds w [] _ := H13.pm (by repeat constructor)
  refine wl_nil (tn ⟨fun _ => HS14, ?_⟩)
  refine wjV (k := 6) rfl HS14 (fun W HW => v_pick_t rfl g61 rfl) ?_
  refine wjV (k := 7) rfl HS14 (fun W HW => v_move rfl) ?_
  refine wj_guard (dj := 66) rfl (fun g66 => ?_) (fun g66 => ?_)
  rotate_left
  ·refine wj_off (k := 8) rfl (by kernel_rfl) (fun _ _ _ h => h) rfl rfl g66 HS14 rfl ?_
   refine wj_off (k := 9) rfl (by kernel_rfl) (fun _ _ _ h => h) rfl rfl g66 HS14 rfl ?_
   refine wj_off (k := 12) rfl (by kernel_rfl) (fun _ _ _ h => h) rfl rfl g66 HS14 rfl ?_
   refine wj_off (k := 13) rfl (by kernel_rfl) (fun _ _ _ h => h) rfl rfl g66 HS14 rfl ?_
   refine wj_off (k := 14) rfl (by kernel_rfl) (fun _ _ _ h => h) rfl rfl g66 HS14 rfl ?_
   refine wj_off (k := 15) rfl (by kernel_rfl) (fun _ _ _ h => h) rfl rfl g66 HS14 rfl ?_
   refine wj_off (k := 16) rfl (by kernel_rfl) (fun _ _ _ h => h) rfl rfl g66 HS14 rfl ?_
   refine wj_off (k := 17) rfl (by kernel_rfl) (fun _ _ _ h => h) rfl rfl g66 HS14 rfl ?_
   refine wj_t (k := 10) rfl (by kernel_rfl) ?_
   refine wF g66 ?_
   have HS20 : Holds w [] _ := H13.pm (by repeat constructor)
   refine wl_nil (tn ⟨fun _ => HS20, ?_⟩)
   refine wj_t (k := 11) rfl (by kernel_rfl) ?_
   refine wF g66 ?_
   have HS21 : Holds w [] _ := H13.pm (by repeat constructor)
   refine wl_nil (tn ⟨fun _ => HS21, ?_⟩)
   refine wj_off (k := 18) rfl (by kernel_rfl) (fun _ _ _ h => h) rfl rfl g66 HS21 rfl ?_
   refine wjV (k := 19) rfl HS21 (fun W HW => v_pick_f rfl g66 rfl) ?_
   refine wj_done (by kernel_rfl) ?_
   refine wc_cond_f rfl ?_
   refine wc_skip ?_
   refine wc_region ?_
   refine wM ?_
   refine wV (v_addi rfl rfl (by omega)) ?_
   refine wA ?_
   refine wl_nil ?_
   first
     | exact ⟨n + 1, (sc rfl (sc rfl (sc rfl (sn _)))), ⟨⟨⟨by omega, by omega⟩, notR_next hno (notR_big g61p)⟩, H13.pm (by repeat (first | exact Pm.nil _ | constructor))⟩, by omega⟩
     | exact ⟨n + 1, (sc rfl (sc rfl (sc rfl (sn _)))), ⟨⟨⟨by omega, by omega⟩, notR_next hno (notR_bad g66)⟩, H13.pm (by repeat (first | exact Pm.nil _ | constructor))⟩, by omega⟩
     | exact ⟨n + 1, (sc rfl (sc rfl (sc rfl (sn _)))), ⟨⟨⟨by omega, by omega⟩, notR_next hno (notR_ne c4p)⟩, H13.pm (by repeat (first | exact Pm.nil _ | constructor))⟩, by omega⟩
  refine wj_vg (k := 8) rfl (by kernel_rfl) (fun _ _ _ h => h) rfl rfl g66 HS14 rfl (fun W HW => v_move rfl) ?_
  refine wj_vg (k := 9) rfl (by kernel_rfl) (fun _ _ _ h => h) rfl rfl g66 HS14 rfl (fun W HW => v_toI32 (a := cnd s i n) (by omega) Try.underlying173 Try.underlying21 rfl) ?_
  refine wj_vg (k := 12) rfl (by kernel_rfl) (fun _ _ _ h => h) rfl rfl g66 HS14 rfl (fun W HW => v_move rfl) ?_
  refine wj_vg (k := 13) rfl (by kernel_rfl) (fun _ _ _ h => h) rfl rfl g66 HS14 rfl (fun W HW => v_move rfl) ?_
  refine wj_vg (k := 14) rfl (by kernel_rfl) (fun _ _ _ h => h) rfl rfl g66 HS14 rfl (fun W HW => v_move rfl) ?_
  refine wj_vg (k := 15) rfl (by kernel_rfl) (fun _ _ _ h => h) rfl rfl g66 HS14 rfl (fun W HW => v_move rfl) ?_
  refine wj_vg (k := 16) rfl (by kernel_rfl) (fun _ _ _ h => h) rfl rfl g66 HS14 rfl (fun W HW => v_addi rfl rfl (by omega)) ?_
  refine wj_vg (k := 17) rfl (by kernel_rfl) (fun _ _ _ h => h) rfl rfl g66 HS14 rfl (fun W HW => v_cut Try.underlying9 rfl rfl rfl (by omega) (by omega) (by omega)) ?_
  rw [show ((i : Int) + (n : Nat)).toNat = i + n by omega, Int.toNat_natCast]
  refine wj_t (k := 10) rfl (by kernel_rfl) ?_
  refine wO g66 ?_
  refine wl_call en98 rfl rfl (rbytes_calls (c := cnd s i n) (by omega) H13) ?_
  rintro _ w15 ⟨b69, rfl, Hc⟩
  have HS16 : Holds w [] _ := Hc.pm (by repeat constructor)
  refine wl_nil (tn ⟨fun _ => HS16, ?_⟩)
  refine wj_t (k := 11) rfl (by kernel_rfl) ?_
  refine wO g66 ?_
  refine wV (v_convBS (bs := encL (cnd s i n)) Try.underlying88 Try.underlying5 Try.underlying9 rfl (Hc.ats (b := b69) (by repeat constructor)) rfl) ?_
  have HS18 : Holds w [] _ := Hc.pm (by repeat constructor)
  refine wl_nil (tn ⟨fun _ => HS18, ?_⟩)
  refine wj_vg (k := 18) rfl (by kernel_rfl) (fun _ _ _ h => h) rfl rfl g66 HS18 rfl (fun W HW => v_eqls rfl rfl) ?_
  refine wjV (k := 19) rfl HS18 (fun W HW => v_pick_t rfl g66 rfl) ?_
  refine wj_done (by kernel_rfl) ?_
  refine wc_cond rfl (fun c4 => ?_) (fun c4 => ?_)
  rotate_left
  ·have c4p := oF c4
   refine wc_skip ?_
   refine wc_region ?_
   refine wM ?_
   refine wV (v_addi rfl rfl (by omega)) ?_
   refine wA ?_
   refine wl_nil ?_
   first
     | exact ⟨n + 1, (sc rfl (sc rfl (sc rfl (sn _)))), ⟨⟨⟨by omega, by omega⟩, notR_next hno (notR_big g61p)⟩, Hc.pm (by repeat (first | exact Pm.nil _ | constructor))⟩, by omega⟩
     | exact ⟨n + 1, (sc rfl (sc rfl (sc rfl (sn _)))), ⟨⟨⟨by omega, by omega⟩, notR_next hno (notR_bad g66)⟩, Hc.pm (by repeat (first | exact Pm.nil _ | constructor))⟩, by omega⟩
     | exact ⟨n + 1, (sc rfl (sc rfl (sc rfl (sn _)))), ⟨⟨⟨by omega, by omega⟩, notR_next hno (notR_ne c4p)⟩, Hc.pm (by repeat (first | exact Pm.nil _ | constructor))⟩, by omega⟩
  have c4p := oT c4
  have hR : isR s i n := ⟨hnb.2, g66, (enc_encL g66).trans c4p⟩
  have hnx := nxt_yes hi (by omega) (by omega) hR
  refine wcR ?_
  refine wM ?_
  refine wV (v_toI32 (a := cnd s i n) (by omega) Try.underlying173 Try.underlying21 rfl) ?_
  refine wM ?_
  refine wA ?_
  refine wA ?_
  refine wA ?_
  refine wl_nil ?_
  refine wc_ret ?_
  first
    | exact ⟨_, res3 rfl rfl rfl rfl, by rw [hnx], Hc.pm (by repeat (first | exact Pm.nil _ | constructor))⟩
    | exact ⟨_, res3 rfl rfl rfl rfl, (by rw [nxt_end hi hno (by omega)]; rfl), Hc.pm (by repeat (first | exact Pm.nil _ | constructor))⟩
end Go.Proofs.Ytgdemplcpcacaaa.NextR

/-! Texts within quotes: the document's answer. -/
namespace Go.Proofs.Ytgdemplcpcacaaa.QuoteR
open Go Go.RowKit Go.Proofs.YtgdemplcpcacaaaFx Go.Proofs.Ytgdemplcpcacaaa.NextR
theorem en90 : Enters Try.prog 90 := enters Try.func90 (by kernel_rfl) rfl
theorem info5 : (Try.prog.info? 5).map (fun i => (i.zero, i.size, i.bytes)) = some (some (.int .u8 0), 1, 1) := by kernel_rfl
theorem mixed : Try.prog.follows .mixedOrders = true := by kernel_rfl
theorem sz5 : ∀ W, (sizeOf 5).run Try.prog W = .ok 1 W := size_of (by kernel_rfl)
theorem zv5 : ∀ W, (zeroValue 5).run Try.prog W = .ok (.int .u8 0) W := zero_of (by kernel_rfl)

set_option maxHeartbeats 6400000 in
set_option maxRecDepth 100000 in
theorem rquote_calls {s : ByteArray} {w : World} (hs : s.size ≤ 1099511627776) : Calls Try.prog 75 #[.string s] w fun e w' => ∃ v, e = .returned v ∧ v = .tuple #[.string (qv s), .int .i64 (qe s)] ∧ Holds w [] w' := by
  refine calls_of Try.func75 rfl Try.ntmps75 rfl ?_
  have H := Holds.start w
  refine wcR ?_
  refine wA ?_
  refine wA ?_
  refine wl_nil ?_
  refine wc_seq ?_
  refine wcR ?_
  refine wM ?_
  refine wV (v_lens Try.underlying9 rfl) ?_
  refine wV (v_gtr rfl rfl) ?_
  refine wl_nil ?_
  refine wc_cond rfl (fun c0 => ?_) (fun c0 => ?_)
  ·have c0p := oT c0
   refine wcR ?_
   refine wA ?_
   refine wA ?_
   refine wl_nil ?_
   refine wc_ret ?_
   first
     | (have q_ := c1p
        rw [qb_end (by omega), List.append_nil] at hq
        exact ⟨_, res2 rfl rfl rfl, by rw [qv, qe, if_pos (by omega), if_pos (by omega), hq], H.pm (by repeat (first | exact Pm.nil _ | constructor))⟩)
     | exact ⟨_, res2 rfl rfl rfl, by rw [qv, qe, if_neg (by omega), if_neg (by omega)], H.pm (Pm.nil _)⟩
  have c0p := oF c0
  refine wc_skip ?_
  refine wcR ?_
  refine wA ?_
  refine wl_nil ?_
  refine wcR ?_
  refine wl_slit (v := .int .u8 0) (z := [.int .u8 0]) (cs := byC [34]) (sz := 1) H rfl Try.underlying88 sz5 zv5 (by decide) (by decide) (by kernel_rfl) rfl (by repeat constructor) ?_
  intro b13 w1 hb13 H1 hs1
  replace H1 := H1.litB (l := [34]) (by decide)
  refine wA ?_
  refine wl_nil ?_
  refine wc_seq ?_
  refine wcR ?_
  refine wA ?_
  refine wl_nil ?_
  refine wc_block ?_
  refine wc_loop (σ := Nat × List UInt8 × Option Addr × Nat) (fun q => [(0, .string s), (4, .string hexs), (5, .slice q.2.2.1 q.2.1.length q.2.2.2), (6, .int .i64 q.1)]) (fun q W => (q.1 ≤ s.size ∧ q.2.1.length ≤ 1 + 4 * q.1 ∧ q.2.1 ++ qb s q.1 = 34 :: qb s 0) ∧ Holds w [BR 5 (.slice q.2.2.1 q.2.1.length q.2.2.2) q.2.1] W) (fun q => s.size - q.1) (0, [34], some ⟨b13, 0, none⟩, 1) (sc rfl (sc rfl (sc rfl (sc rfl (sn _))))) ⟨⟨Nat.zero_le _, Nat.le_refl 1, rfl⟩, H1⟩ ?_
  rintro ⟨i, l, Al, cl⟩ W0 ⟨⟨hi, hl, hq⟩, H⟩
  dsimp only at hi hl hq H ⊢
  refine wc_seq ?_
  refine wcR ?_
  refine wM ?_
  refine wM ?_
  refine wV (v_lens Try.underlying9 rfl) ?_
  refine wV (v_lss rfl rfl) ?_
  refine wl_nil ?_
  refine wc_cond rfl (fun c1 => ?_) (fun c1 => ?_)
  rotate_left
  ·have c1p := oF c1
   refine wc_exit ?_
   refine wcR ?_
   refine wM ?_
   refine wl_slit (v := .int .u8 0) (z := [.int .u8 0]) (cs := byC [34]) (sz := 1) H rfl Try.underlying88 sz5 zv5 (by decide) (by decide) (by kernel_rfl) rfl (by repeat constructor) ?_
   intro b105 w32 hb105 H32 hs32
   refine wl_appY (bs := l) (ys := [34]) H32 (fun v' => (by repeat constructor)) rfl Try.underlying88 info5 rfl rfl rfl (fun _ => rfl) (H32.ats (b := b105) (by repeat constructor)) (by (try simp only [List.length_append, List.length_cons, List.length_nil]); omega) ?_
   intro A106 c106 w33 H33 hs33
   refine wV (v_convBS (bs := l ++ [34]) Try.underlying88 Try.underlying5 Try.underlying9 ((H33.brAt (l := l ++ [34]) (by repeat constructor)).1 (by simp)) (H33.brAt (l := l ++ [34]) (by repeat constructor)).2 rfl) ?_
   refine wA ?_
   refine wA ?_
   refine wl_nil ?_
   refine wc_ret ?_
   first
     | (have q_ := c1p
        rw [qb_end (by omega), List.append_nil] at hq
        exact ⟨_, res2 rfl rfl rfl, by rw [qv, qe, if_pos (by omega), if_pos (by omega), hq], H33.pm (by repeat (first | exact Pm.nil _ | constructor))⟩)
     | exact ⟨_, res2 rfl rfl rfl, by rw [qv, qe, if_neg (by omega), if_neg (by omega)], H33.pm (Pm.nil _)⟩
  have c1p := oT c1
  have hin : i < s.size := by omega
  obtain ⟨hn1, hn2, hn3⟩ := nxt_fit hin
  have hby := byA_lt s i
  rcases Bool.eq_false_or_eq_true (nxt s i).2.2 with hb | hb
  ·refine wc_skip ?_
   refine wc_block ?_
   refine wcR ?_
   refine wM ?_
   refine wM ?_
   refine wl_call en90 rfl rfl (rnext_calls hs (by omega)) ?_
   rintro _ w2 ⟨rfl, Hc⟩
   have H3 := H.call0 Hc
   refine wM ?_
   refine wV (v_extract rfl rfl) ?_
   refine wV (v_extract rfl rfl) ?_
   refine wV (v_extract rfl rfl) ?_
   refine wA ?_
   refine wA ?_
   refine wA ?_
   refine wl_nil ?_
   refine wc_cut (σ := List UInt8 × Option Addr × Nat) (fun q => [(0, .string s), (4, .string hexs), (5, .slice q.2.1 q.1.length q.2.2), (6, .int .i64 i), (8, .int .i64 (nxt s i).2.1)]) (fun q W => q.1 = l ++ qpart s i ∧ Holds w [BR 5 (.slice q.2.1 q.1.length q.2.2) q.1] W) ?_ ?_
   rotate_left
   ·rintro ⟨l2, A2, k2⟩ Wm ⟨hl2, H⟩
    dsimp only at hl2 H ⊢
    refine wc_region ?_
    refine wM ?_
    refine wM ?_
    refine wV (v_addi rfl rfl (by omega)) ?_
    refine wA ?_
    refine wl_nil ?_
    have hql := qpart_len hin
    subst hl2
    exact ⟨(i + (nxt s i).2.1, l ++ qpart s i, A2, k2), by (dsimp only; rw [show (((i + (nxt s i).2.1 : Nat)) : Int) = (i : Int) + ((nxt s i).2.1 : Nat) from Int.natCast_add _ _]; exact (sc rfl (sc rfl (sc rfl (sc rfl (sn _)))))), ⟨⟨by dsimp only; omega, by dsimp only; rw [List.length_append]; omega, by dsimp only; rw [List.append_assoc, ← qb_step hin]; exact hq⟩, H⟩, by dsimp only; omega⟩
   refine wc_block ?_
   refine wcR ?_
   refine wM ?_
   refine wM ?_
   refine wO hb ?_
   refine wM ?_
   refine wO hb ?_
   refine wV (v_eql rfl rfl) ?_
   refine wV (v_pick_t rfl hb rfl) ?_
   refine wA ?_
   refine wl_nil ?_
   refine wc_cond rfl (fun c2 => ?_) (fun c2 => ?_)
   ·have c2p := oT c2
    refine wc_region ?_
    refine wM ?_
    refine wl_slit (v := .int .u8 0) (z := [.int .u8 0, .int .u8 0]) (cs := byC [92, 110]) (sz := 1) H3 rfl Try.underlying88 sz5 zv5 (by decide) (by decide) (by kernel_rfl) rfl (by repeat constructor) ?_
    intro b40 w4 hb40 H4 hs4
    refine wl_appY (bs := l) (ys := [92, 110]) H4 (fun v' => (by repeat constructor)) rfl Try.underlying88 info5 rfl rfl rfl (fun _ => rfl) (H4.ats (b := b40) (by repeat constructor)) (by (try simp only [List.length_append, List.length_cons, List.length_nil]); omega) ?_
    intro A41 c41 w5 H5 hs5
    refine wA ?_
    refine wl_nil ?_
    first
      | (have e_ : qpart s i = [92, 110] := by unfold qpart; rw [if_pos g37p]
         exact ⟨(l ++ [92, 110], A41, c41), (sc rfl (sc rfl (sc rfl (sc rfl (sc rfl (sn _)))))), ⟨by rw [e_], H5.pm (by repeat (first | exact pm_refl _ | constructor | refine pm_skip ?_))⟩⟩)
      | (have e_ : qpart s i = [92, 110] := by unfold qpart; rw [if_pos c2p]
         exact ⟨(l ++ [92, 110], A41, c41), (sc rfl (sc rfl (sc rfl (sc rfl (sc rfl (sn _)))))), ⟨by rw [e_], H5.pm (by repeat (first | exact pm_refl _ | constructor | refine pm_skip ?_))⟩⟩)
      | (have e_ : qpart s i = [92, 116] := by unfold qpart; rw [if_neg c2p, if_pos c3p]
         exact ⟨(l ++ [92, 116], A50, c50), (sc rfl (sc rfl (sc rfl (sc rfl (sc rfl (sn _)))))), ⟨by rw [e_], H5.pm (by repeat (first | exact pm_refl _ | constructor | refine pm_skip ?_))⟩⟩)
      | (have e_ : qpart s i = [92, 114] := by unfold qpart; rw [if_neg c2p, if_neg c3p, if_pos c4p]
         exact ⟨(l ++ [92, 114], A59, c59), (sc rfl (sc rfl (sc rfl (sc rfl (sc rfl (sn _)))))), ⟨by rw [e_], H5.pm (by repeat (first | exact pm_refl _ | constructor | refine pm_skip ?_))⟩⟩)
      | exact ⟨(l ++ [92, c72], A74, c74), (sc rfl (sc rfl (sc rfl (sc rfl (sc rfl (sn _)))))), ⟨by rw [hq72], H5.pm (by repeat (first | exact pm_refl _ | constructor | refine pm_skip ?_))⟩⟩
      | (have e_ : qpart s i = [92, 120, hexd (byA s i / 16), hexd (byA s i % 16)] := by (unfold qpart; first | (have z_ := nxt_f hb; rw [if_neg (by omega), if_neg (by omega), if_neg (by omega), if_neg (by omega), if_neg (by omega), if_pos (.inl hb)]) | rw [if_neg c2p, if_neg c3p, if_neg c4p, if_neg (by omega), if_neg (by omega), if_pos (.inr (by omega))])
         exact ⟨(l ++ [92, 120, hexd (byA s i / 16), hexd (byA s i % 16)], A100, c100), (sc rfl (sc rfl (sc rfl (sc rfl (sc rfl (sn _)))))), ⟨by rw [e_], H5.pm (by repeat (first | exact pm_refl _ | constructor | refine pm_skip ?_))⟩⟩)
      | (have e_ : qpart s i = (s.extract i (i + (nxt s i).2.1)).data.toList := by (unfold qpart; rw [if_neg c2p, if_neg c3p, if_neg c4p, if_neg (by omega), if_neg (by omega), if_neg (by rintro (h_ | h_ | h_) <;> first | omega | exact absurd (h_.symm.trans hb) (by decide))])
         exact ⟨(l ++ (s.extract i (i + (nxt s i).2.1)).data.toList, A32, c32), (sc rfl (sc rfl (sc rfl (sc rfl (sc rfl (sn _)))))), ⟨by rw [e_], H5.pm (by repeat (first | exact pm_refl _ | constructor | refine pm_skip ?_))⟩⟩)
   have c2p := oF c2
   refine wcR ?_
   refine wM ?_
   refine wM ?_
   refine wO hb ?_
   refine wM ?_
   refine wO hb ?_
   refine wV (v_eql rfl rfl) ?_
   refine wV (v_pick_t rfl hb rfl) ?_
   refine wA ?_
   refine wl_nil ?_
   refine wc_cond rfl (fun c3 => ?_) (fun c3 => ?_)
   ·have c3p := oT c3
    refine wc_region ?_
    refine wM ?_
    refine wl_slit (v := .int .u8 0) (z := [.int .u8 0, .int .u8 0]) (cs := byC [92, 116]) (sz := 1) H3 rfl Try.underlying88 sz5 zv5 (by decide) (by decide) (by kernel_rfl) rfl (by repeat constructor) ?_
    intro b49 w6 hb49 H6 hs6
    refine wl_appY (bs := l) (ys := [92, 116]) H6 (fun v' => (by repeat constructor)) rfl Try.underlying88 info5 rfl rfl rfl (fun _ => rfl) (H6.ats (b := b49) (by repeat constructor)) (by (try simp only [List.length_append, List.length_cons, List.length_nil]); omega) ?_
    intro A50 c50 w7 H7 hs7
    refine wA ?_
    refine wl_nil ?_
    first
      | (have e_ : qpart s i = [92, 110] := by unfold qpart; rw [if_pos g37p]
         exact ⟨(l ++ [92, 110], A41, c41), (sc rfl (sc rfl (sc rfl (sc rfl (sc rfl (sn _)))))), ⟨by rw [e_], H7.pm (by repeat (first | exact pm_refl _ | constructor | refine pm_skip ?_))⟩⟩)
      | (have e_ : qpart s i = [92, 110] := by unfold qpart; rw [if_pos c2p]
         exact ⟨(l ++ [92, 110], A41, c41), (sc rfl (sc rfl (sc rfl (sc rfl (sc rfl (sn _)))))), ⟨by rw [e_], H7.pm (by repeat (first | exact pm_refl _ | constructor | refine pm_skip ?_))⟩⟩)
      | (have e_ : qpart s i = [92, 116] := by unfold qpart; rw [if_neg c2p, if_pos c3p]
         exact ⟨(l ++ [92, 116], A50, c50), (sc rfl (sc rfl (sc rfl (sc rfl (sc rfl (sn _)))))), ⟨by rw [e_], H7.pm (by repeat (first | exact pm_refl _ | constructor | refine pm_skip ?_))⟩⟩)
      | (have e_ : qpart s i = [92, 114] := by unfold qpart; rw [if_neg c2p, if_neg c3p, if_pos c4p]
         exact ⟨(l ++ [92, 114], A59, c59), (sc rfl (sc rfl (sc rfl (sc rfl (sc rfl (sn _)))))), ⟨by rw [e_], H7.pm (by repeat (first | exact pm_refl _ | constructor | refine pm_skip ?_))⟩⟩)
      | exact ⟨(l ++ [92, c72], A74, c74), (sc rfl (sc rfl (sc rfl (sc rfl (sc rfl (sn _)))))), ⟨by rw [hq72], H7.pm (by repeat (first | exact pm_refl _ | constructor | refine pm_skip ?_))⟩⟩
      | (have e_ : qpart s i = [92, 120, hexd (byA s i / 16), hexd (byA s i % 16)] := by (unfold qpart; first | (have z_ := nxt_f hb; rw [if_neg (by omega), if_neg (by omega), if_neg (by omega), if_neg (by omega), if_neg (by omega), if_pos (.inl hb)]) | rw [if_neg c2p, if_neg c3p, if_neg c4p, if_neg (by omega), if_neg (by omega), if_pos (.inr (by omega))])
         exact ⟨(l ++ [92, 120, hexd (byA s i / 16), hexd (byA s i % 16)], A100, c100), (sc rfl (sc rfl (sc rfl (sc rfl (sc rfl (sn _)))))), ⟨by rw [e_], H7.pm (by repeat (first | exact pm_refl _ | constructor | refine pm_skip ?_))⟩⟩)
      | (have e_ : qpart s i = (s.extract i (i + (nxt s i).2.1)).data.toList := by (unfold qpart; rw [if_neg c2p, if_neg c3p, if_neg c4p, if_neg (by omega), if_neg (by omega), if_neg (by rintro (h_ | h_ | h_) <;> first | omega | exact absurd (h_.symm.trans hb) (by decide))])
         exact ⟨(l ++ (s.extract i (i + (nxt s i).2.1)).data.toList, A32, c32), (sc rfl (sc rfl (sc rfl (sc rfl (sc rfl (sn _)))))), ⟨by rw [e_], H7.pm (by repeat (first | exact pm_refl _ | constructor | refine pm_skip ?_))⟩⟩)
   have c3p := oF c3
   refine wcR ?_
   refine wM ?_
   refine wM ?_
   refine wO hb ?_
   refine wM ?_
   refine wO hb ?_
   refine wV (v_eql rfl rfl) ?_
   refine wV (v_pick_t rfl hb rfl) ?_
   refine wA ?_
   refine wl_nil ?_
   refine wc_cond rfl (fun c4 => ?_) (fun c4 => ?_)
   ·have c4p := oT c4
    refine wc_region ?_
    refine wM ?_
    refine wl_slit (v := .int .u8 0) (z := [.int .u8 0, .int .u8 0]) (cs := byC [92, 114]) (sz := 1) H3 rfl Try.underlying88 sz5 zv5 (by decide) (by decide) (by kernel_rfl) rfl (by repeat constructor) ?_
    intro b58 w8 hb58 H8 hs8
    refine wl_appY (bs := l) (ys := [92, 114]) H8 (fun v' => (by repeat constructor)) rfl Try.underlying88 info5 rfl rfl rfl (fun _ => rfl) (H8.ats (b := b58) (by repeat constructor)) (by (try simp only [List.length_append, List.length_cons, List.length_nil]); omega) ?_
    intro A59 c59 w9 H9 hs9
    refine wA ?_
    refine wl_nil ?_
    first
      | (have e_ : qpart s i = [92, 110] := by unfold qpart; rw [if_pos g37p]
         exact ⟨(l ++ [92, 110], A41, c41), (sc rfl (sc rfl (sc rfl (sc rfl (sc rfl (sn _)))))), ⟨by rw [e_], H9.pm (by repeat (first | exact pm_refl _ | constructor | refine pm_skip ?_))⟩⟩)
      | (have e_ : qpart s i = [92, 110] := by unfold qpart; rw [if_pos c2p]
         exact ⟨(l ++ [92, 110], A41, c41), (sc rfl (sc rfl (sc rfl (sc rfl (sc rfl (sn _)))))), ⟨by rw [e_], H9.pm (by repeat (first | exact pm_refl _ | constructor | refine pm_skip ?_))⟩⟩)
      | (have e_ : qpart s i = [92, 116] := by unfold qpart; rw [if_neg c2p, if_pos c3p]
         exact ⟨(l ++ [92, 116], A50, c50), (sc rfl (sc rfl (sc rfl (sc rfl (sc rfl (sn _)))))), ⟨by rw [e_], H9.pm (by repeat (first | exact pm_refl _ | constructor | refine pm_skip ?_))⟩⟩)
      | (have e_ : qpart s i = [92, 114] := by unfold qpart; rw [if_neg c2p, if_neg c3p, if_pos c4p]
         exact ⟨(l ++ [92, 114], A59, c59), (sc rfl (sc rfl (sc rfl (sc rfl (sc rfl (sn _)))))), ⟨by rw [e_], H9.pm (by repeat (first | exact pm_refl _ | constructor | refine pm_skip ?_))⟩⟩)
      | exact ⟨(l ++ [92, c72], A74, c74), (sc rfl (sc rfl (sc rfl (sc rfl (sc rfl (sn _)))))), ⟨by rw [hq72], H9.pm (by repeat (first | exact pm_refl _ | constructor | refine pm_skip ?_))⟩⟩
      | (have e_ : qpart s i = [92, 120, hexd (byA s i / 16), hexd (byA s i % 16)] := by (unfold qpart; first | (have z_ := nxt_f hb; rw [if_neg (by omega), if_neg (by omega), if_neg (by omega), if_neg (by omega), if_neg (by omega), if_pos (.inl hb)]) | rw [if_neg c2p, if_neg c3p, if_neg c4p, if_neg (by omega), if_neg (by omega), if_pos (.inr (by omega))])
         exact ⟨(l ++ [92, 120, hexd (byA s i / 16), hexd (byA s i % 16)], A100, c100), (sc rfl (sc rfl (sc rfl (sc rfl (sc rfl (sn _)))))), ⟨by rw [e_], H9.pm (by repeat (first | exact pm_refl _ | constructor | refine pm_skip ?_))⟩⟩)
      | (have e_ : qpart s i = (s.extract i (i + (nxt s i).2.1)).data.toList := by (unfold qpart; rw [if_neg c2p, if_neg c3p, if_neg c4p, if_neg (by omega), if_neg (by omega), if_neg (by rintro (h_ | h_ | h_) <;> first | omega | exact absurd (h_.symm.trans hb) (by decide))])
         exact ⟨(l ++ (s.extract i (i + (nxt s i).2.1)).data.toList, A32, c32), (sc rfl (sc rfl (sc rfl (sc rfl (sc rfl (sn _)))))), ⟨by rw [e_], H9.pm (by repeat (first | exact pm_refl _ | constructor | refine pm_skip ?_))⟩⟩)
   have c4p := oF c4
   refine wcR ?_
   refine wM ?_
   refine wM ?_
   refine wO hb ?_
   refine wM ?_
   refine wO hb ?_
   refine wV (v_eql rfl rfl) ?_
   refine wO hb ?_
   refine wM ?_
   refine wl_guard rfl rfl rfl (fun g65 => ?_) (fun g65 => ?_)
   rotate_left
   ·have g65p := oT g65
    refine wF g65 ?_
    refine wO hb ?_
    refine wV (v_pick_t rfl g65 rfl) ?_
    refine wV (v_pick_t rfl hb rfl) ?_
    refine wA ?_
    refine wl_nil ?_
    refine wc_cond_t rfl ?_
    refine wc_region ?_
    refine wM ?_
    refine wM ?_
    obtain ⟨c72, hcv, hq72⟩ : ∃ c72 : UInt8, Value.int .u8 (IntKind.u8.wrap (nxt s i).1) = Value.int .u8 (c72.toNat : Int) ∧ qpart s i = [92, c72] := by
      rcases (by first | exact .inl g65p | exact .inr (by omega) : (nxt s i).1 = 34 ∨ (nxt s i).1 = 92) with h_ | h_
      · exact ⟨34, by rw [h_]; rfl, by unfold qpart; rw [if_neg c2p, if_neg c3p, if_neg c4p, if_pos h_]⟩
      · exact ⟨92, by rw [h_]; rfl, by unfold qpart; rw [if_neg c2p, if_neg c3p, if_neg c4p, if_neg (by omega), if_pos h_]⟩
    refine wV (v_conv Try.underlying21 Try.underlying5 rfl) ?_
    rw [hcv]
    refine wl_slit (v := .int .u8 0) (z := [.int .u8 0, .int .u8 0]) (cs := byC [92, c72]) (sz := 1) H3 rfl Try.underlying88 sz5 zv5 (by decide) (by decide) (by kernel_rfl) rfl (by repeat constructor) ?_
    intro b73 w24 hb73 H24 hs24
    refine wl_appY (bs := l) (ys := [92, c72]) H24 (fun v' => (by repeat constructor)) rfl Try.underlying88 info5 rfl rfl rfl (fun _ => rfl) (H24.ats (b := b73) (by repeat constructor)) (by (try simp only [List.length_append, List.length_cons, List.length_nil]); omega) ?_
    intro A74 c74 w25 H25 hs25
    refine wA ?_
    refine wl_nil ?_
    first
      | (have e_ : qpart s i = [92, 110] := by unfold qpart; rw [if_pos g37p]
         exact ⟨(l ++ [92, 110], A41, c41), (sc rfl (sc rfl (sc rfl (sc rfl (sc rfl (sn _)))))), ⟨by rw [e_], H25.pm (by repeat (first | exact pm_refl _ | constructor | refine pm_skip ?_))⟩⟩)
      | (have e_ : qpart s i = [92, 110] := by unfold qpart; rw [if_pos c2p]
         exact ⟨(l ++ [92, 110], A41, c41), (sc rfl (sc rfl (sc rfl (sc rfl (sc rfl (sn _)))))), ⟨by rw [e_], H25.pm (by repeat (first | exact pm_refl _ | constructor | refine pm_skip ?_))⟩⟩)
      | (have e_ : qpart s i = [92, 116] := by unfold qpart; rw [if_neg c2p, if_pos c3p]
         exact ⟨(l ++ [92, 116], A50, c50), (sc rfl (sc rfl (sc rfl (sc rfl (sc rfl (sn _)))))), ⟨by rw [e_], H25.pm (by repeat (first | exact pm_refl _ | constructor | refine pm_skip ?_))⟩⟩)
      | (have e_ : qpart s i = [92, 114] := by unfold qpart; rw [if_neg c2p, if_neg c3p, if_pos c4p]
         exact ⟨(l ++ [92, 114], A59, c59), (sc rfl (sc rfl (sc rfl (sc rfl (sc rfl (sn _)))))), ⟨by rw [e_], H25.pm (by repeat (first | exact pm_refl _ | constructor | refine pm_skip ?_))⟩⟩)
      | exact ⟨(l ++ [92, c72], A74, c74), (sc rfl (sc rfl (sc rfl (sc rfl (sc rfl (sn _)))))), ⟨by rw [hq72], H25.pm (by repeat (first | exact pm_refl _ | constructor | refine pm_skip ?_))⟩⟩
      | (have e_ : qpart s i = [92, 120, hexd (byA s i / 16), hexd (byA s i % 16)] := by (unfold qpart; first | (have z_ := nxt_f hb; rw [if_neg (by omega), if_neg (by omega), if_neg (by omega), if_neg (by omega), if_neg (by omega), if_pos (.inl hb)]) | rw [if_neg c2p, if_neg c3p, if_neg c4p, if_neg (by omega), if_neg (by omega), if_pos (.inr (by omega))])
         exact ⟨(l ++ [92, 120, hexd (byA s i / 16), hexd (byA s i % 16)], A100, c100), (sc rfl (sc rfl (sc rfl (sc rfl (sc rfl (sn _)))))), ⟨by rw [e_], H25.pm (by repeat (first | exact pm_refl _ | constructor | refine pm_skip ?_))⟩⟩)
      | (have e_ : qpart s i = (s.extract i (i + (nxt s i).2.1)).data.toList := by (unfold qpart; rw [if_neg c2p, if_neg c3p, if_neg c4p, if_neg (by omega), if_neg (by omega), if_neg (by rintro (h_ | h_ | h_) <;> first | omega | exact absurd (h_.symm.trans hb) (by decide))])
         exact ⟨(l ++ (s.extract i (i + (nxt s i).2.1)).data.toList, A32, c32), (sc rfl (sc rfl (sc rfl (sc rfl (sc rfl (sn _)))))), ⟨by rw [e_], H25.pm (by repeat (first | exact pm_refl _ | constructor | refine pm_skip ?_))⟩⟩)
   have g65p := oF g65
   refine wM ?_
   refine wO g65 ?_
   refine wV (v_eql rfl rfl) ?_
   refine wO hb ?_
   refine wV (v_pick_f rfl g65 rfl) ?_
   refine wV (v_pick_t rfl hb rfl) ?_
   refine wA ?_
   refine wl_nil ?_
   refine wc_cond rfl (fun c5 => ?_) (fun c5 => ?_)
   ·have c5p := oT c5
    refine wc_region ?_
    refine wM ?_
    refine wM ?_
    obtain ⟨c72, hcv, hq72⟩ : ∃ c72 : UInt8, Value.int .u8 (IntKind.u8.wrap (nxt s i).1) = Value.int .u8 (c72.toNat : Int) ∧ qpart s i = [92, c72] := by
      rcases (by first | exact .inl g65p | exact .inr (by omega) : (nxt s i).1 = 34 ∨ (nxt s i).1 = 92) with h_ | h_
      · exact ⟨34, by rw [h_]; rfl, by unfold qpart; rw [if_neg c2p, if_neg c3p, if_neg c4p, if_pos h_]⟩
      · exact ⟨92, by rw [h_]; rfl, by unfold qpart; rw [if_neg c2p, if_neg c3p, if_neg c4p, if_neg (by omega), if_pos h_]⟩
    refine wV (v_conv Try.underlying21 Try.underlying5 rfl) ?_
    rw [hcv]
    refine wl_slit (v := .int .u8 0) (z := [.int .u8 0, .int .u8 0]) (cs := byC [92, c72]) (sz := 1) H3 rfl Try.underlying88 sz5 zv5 (by decide) (by decide) (by kernel_rfl) rfl (by repeat constructor) ?_
    intro b73 w11 hb73 H11 hs11
    refine wl_appY (bs := l) (ys := [92, c72]) H11 (fun v' => (by repeat constructor)) rfl Try.underlying88 info5 rfl rfl rfl (fun _ => rfl) (H11.ats (b := b73) (by repeat constructor)) (by (try simp only [List.length_append, List.length_cons, List.length_nil]); omega) ?_
    intro A74 c74 w12 H12 hs12
    refine wA ?_
    refine wl_nil ?_
    first
      | (have e_ : qpart s i = [92, 110] := by unfold qpart; rw [if_pos g37p]
         exact ⟨(l ++ [92, 110], A41, c41), (sc rfl (sc rfl (sc rfl (sc rfl (sc rfl (sn _)))))), ⟨by rw [e_], H12.pm (by repeat (first | exact pm_refl _ | constructor | refine pm_skip ?_))⟩⟩)
      | (have e_ : qpart s i = [92, 110] := by unfold qpart; rw [if_pos c2p]
         exact ⟨(l ++ [92, 110], A41, c41), (sc rfl (sc rfl (sc rfl (sc rfl (sc rfl (sn _)))))), ⟨by rw [e_], H12.pm (by repeat (first | exact pm_refl _ | constructor | refine pm_skip ?_))⟩⟩)
      | (have e_ : qpart s i = [92, 116] := by unfold qpart; rw [if_neg c2p, if_pos c3p]
         exact ⟨(l ++ [92, 116], A50, c50), (sc rfl (sc rfl (sc rfl (sc rfl (sc rfl (sn _)))))), ⟨by rw [e_], H12.pm (by repeat (first | exact pm_refl _ | constructor | refine pm_skip ?_))⟩⟩)
      | (have e_ : qpart s i = [92, 114] := by unfold qpart; rw [if_neg c2p, if_neg c3p, if_pos c4p]
         exact ⟨(l ++ [92, 114], A59, c59), (sc rfl (sc rfl (sc rfl (sc rfl (sc rfl (sn _)))))), ⟨by rw [e_], H12.pm (by repeat (first | exact pm_refl _ | constructor | refine pm_skip ?_))⟩⟩)
      | exact ⟨(l ++ [92, c72], A74, c74), (sc rfl (sc rfl (sc rfl (sc rfl (sc rfl (sn _)))))), ⟨by rw [hq72], H12.pm (by repeat (first | exact pm_refl _ | constructor | refine pm_skip ?_))⟩⟩
      | (have e_ : qpart s i = [92, 120, hexd (byA s i / 16), hexd (byA s i % 16)] := by (unfold qpart; first | (have z_ := nxt_f hb; rw [if_neg (by omega), if_neg (by omega), if_neg (by omega), if_neg (by omega), if_neg (by omega), if_pos (.inl hb)]) | rw [if_neg c2p, if_neg c3p, if_neg c4p, if_neg (by omega), if_neg (by omega), if_pos (.inr (by omega))])
         exact ⟨(l ++ [92, 120, hexd (byA s i / 16), hexd (byA s i % 16)], A100, c100), (sc rfl (sc rfl (sc rfl (sc rfl (sc rfl (sn _)))))), ⟨by rw [e_], H12.pm (by repeat (first | exact pm_refl _ | constructor | refine pm_skip ?_))⟩⟩)
      | (have e_ : qpart s i = (s.extract i (i + (nxt s i).2.1)).data.toList := by (unfold qpart; rw [if_neg c2p, if_neg c3p, if_neg c4p, if_neg (by omega), if_neg (by omega), if_neg (by rintro (h_ | h_ | h_) <;> first | omega | exact absurd (h_.symm.trans hb) (by decide))])
         exact ⟨(l ++ (s.extract i (i + (nxt s i).2.1)).data.toList, A32, c32), (sc rfl (sc rfl (sc rfl (sc rfl (sc rfl (sn _)))))), ⟨by rw [e_], H12.pm (by repeat (first | exact pm_refl _ | constructor | refine pm_skip ?_))⟩⟩)
   have c5p := oF c5
   refine wcR ?_
   refine wM ?_
   refine wV (v_not rfl) ?_
   refine wM ?_
   refine wl_on' rfl rfl (by rw [hb] <;> rfl) ?_
   refine wM ?_
   refine wl_on' rfl rfl (by rw [hb] <;> rfl) ?_
   refine wV (v_lss rfl rfl) ?_
   refine wV (v_pick_f rfl (by rw [hb] <;> rfl) rfl) ?_
   refine wM ?_
   refine wl_guard rfl rfl rfl (fun g82 => ?_) (fun g82 => ?_)
   rotate_left
   ·have g82p := oT g82
    refine wF g82 ?_
    refine wV (v_pick_t rfl g82 rfl) ?_
    refine wA ?_
    refine wl_nil ?_
    refine wc_cond_t rfl ?_
    refine wc_tree [0, 1, 2, 3, 4, 5, 6, 7, 8, 9, 10, 11, 12, 15] (fun W => Holds w [] W) mixed ?_
    have Hd := H3.drew
    have HSd : Holds w [] _ := Hd.pm (by repeat (first | exact pm_refl _ | constructor | refine pm_skip ?_))
    refine wjV (k := 0) rfl HSd (fun W HW => v_move rfl) ?_
    refine wjV (k := 1) rfl HSd (fun W HW => v_move rfl) ?_
    refine wjV (k := 2) rfl HSd (fun W HW => v_move rfl) ?_
    refine wjV (k := 3) rfl HSd (fun W HW => v_move rfl) ?_
    refine wjV (k := 4) rfl HSd (fun W HW => v_idxs (i := i) (s := s) Try.underlying9 rfl rfl (by omega)) ?_
    refine wjV (k := 5) rfl HSd (fun W HW => v_quo8 (a := byA s i) 16 (by decide) hby rfl rfl) ?_
    refine wjV (k := 6) rfl HSd (fun W HW => v_idxs (i := byA s i / 16) (s := hexs) Try.underlying9 rfl rfl (show byA s i / 16 < 16 by omega)) ?_
    refine wjV (k := 7) rfl HSd (fun W HW => v_move rfl) ?_
    refine wjV (k := 8) rfl HSd (fun W HW => v_move rfl) ?_
    refine wjV (k := 9) rfl HSd (fun W HW => v_move rfl) ?_
    refine wjV (k := 10) rfl HSd (fun W HW => v_idxs (i := i) (s := s) Try.underlying9 rfl rfl (by omega)) ?_
    refine wjV (k := 11) rfl HSd (fun W HW => v_rem8 (a := byA s i) 16 (by decide) rfl rfl) ?_
    refine wjV (k := 12) rfl HSd (fun W HW => v_idxs (i := byA s i % 16) (s := hexs) Try.underlying9 rfl rfl (show byA s i % 16 < 16 by omega)) ?_
    refine wj_t (k := 13) rfl (by kernel_rfl) ?_
    refine wl_slit (v := .int .u8 0) (z := [.int .u8 0, .int .u8 0, .int .u8 0, .int .u8 0]) (cs := byC [92, 120, hexd (byA s i / 16), hexd (byA s i % 16)]) (sz := 1) Hd rfl Try.underlying88 sz5 zv5 (by decide) (by decide) (by kernel_rfl) rfl (by repeat constructor) ?_
    intro b99 w19 hb99 H19 hs19
    have HS20 : Holds w [] _ := H19.pm (by repeat (first | exact pm_refl _ | constructor | refine pm_skip ?_))
    refine wl_nil (tn ⟨fun _ => HS20, ?_⟩)
    refine wj_t (k := 14) rfl (by kernel_rfl) ?_
    refine wl_appY (bs := l) (ys := [92, 120, hexd (byA s i / 16), hexd (byA s i % 16)]) H19 (fun v' => (by repeat constructor)) rfl Try.underlying88 info5 rfl rfl rfl (fun _ => rfl) (H19.ats (b := b99) (by repeat constructor)) (by (try simp only [List.length_append, List.length_cons, List.length_nil]); omega) ?_
    intro A100 c100 w21 H21 hs21
    have HS22 : Holds w [] _ := H21.pm (by repeat (first | exact pm_refl _ | constructor | refine pm_skip ?_))
    refine wl_nil (tn ⟨fun _ => HS22, ?_⟩)
    refine wjV (k := 15) rfl HS22 (fun W HW => v_assign rfl) ?_
    refine wj_done (by kernel_rfl) ?_
    first
      | (have e_ : qpart s i = [92, 110] := by unfold qpart; rw [if_pos g37p]
         exact ⟨(l ++ [92, 110], A41, c41), (sc rfl (sc rfl (sc rfl (sc rfl (sc rfl (sn _)))))), ⟨by rw [e_], H21.pm (by repeat (first | exact pm_refl _ | constructor | refine pm_skip ?_))⟩⟩)
      | (have e_ : qpart s i = [92, 110] := by unfold qpart; rw [if_pos c2p]
         exact ⟨(l ++ [92, 110], A41, c41), (sc rfl (sc rfl (sc rfl (sc rfl (sc rfl (sn _)))))), ⟨by rw [e_], H21.pm (by repeat (first | exact pm_refl _ | constructor | refine pm_skip ?_))⟩⟩)
      | (have e_ : qpart s i = [92, 116] := by unfold qpart; rw [if_neg c2p, if_pos c3p]
         exact ⟨(l ++ [92, 116], A50, c50), (sc rfl (sc rfl (sc rfl (sc rfl (sc rfl (sn _)))))), ⟨by rw [e_], H21.pm (by repeat (first | exact pm_refl _ | constructor | refine pm_skip ?_))⟩⟩)
      | (have e_ : qpart s i = [92, 114] := by unfold qpart; rw [if_neg c2p, if_neg c3p, if_pos c4p]
         exact ⟨(l ++ [92, 114], A59, c59), (sc rfl (sc rfl (sc rfl (sc rfl (sc rfl (sn _)))))), ⟨by rw [e_], H21.pm (by repeat (first | exact pm_refl _ | constructor | refine pm_skip ?_))⟩⟩)
      | exact ⟨(l ++ [92, c72], A74, c74), (sc rfl (sc rfl (sc rfl (sc rfl (sc rfl (sn _)))))), ⟨by rw [hq72], H21.pm (by repeat (first | exact pm_refl _ | constructor | refine pm_skip ?_))⟩⟩
      | (have e_ : qpart s i = [92, 120, hexd (byA s i / 16), hexd (byA s i % 16)] := by (unfold qpart; first | (have z_ := nxt_f hb; rw [if_neg (by omega), if_neg (by omega), if_neg (by omega), if_neg (by omega), if_neg (by omega), if_pos (.inl hb)]) | rw [if_neg c2p, if_neg c3p, if_neg c4p, if_neg (by omega), if_neg (by omega), if_pos (.inr (by omega))])
         exact ⟨(l ++ [92, 120, hexd (byA s i / 16), hexd (byA s i % 16)], A100, c100), (sc rfl (sc rfl (sc rfl (sc rfl (sc rfl (sn _)))))), ⟨by rw [e_], H21.pm (by repeat (first | exact pm_refl _ | constructor | refine pm_skip ?_))⟩⟩)
      | (have e_ : qpart s i = (s.extract i (i + (nxt s i).2.1)).data.toList := by (unfold qpart; rw [if_neg c2p, if_neg c3p, if_neg c4p, if_neg (by omega), if_neg (by omega), if_neg (by rintro (h_ | h_ | h_) <;> first | omega | exact absurd (h_.symm.trans hb) (by decide))])
         exact ⟨(l ++ (s.extract i (i + (nxt s i).2.1)).data.toList, A32, c32), (sc rfl (sc rfl (sc rfl (sc rfl (sc rfl (sn _)))))), ⟨by rw [e_], H21.pm (by repeat (first | exact pm_refl _ | constructor | refine pm_skip ?_))⟩⟩)
   have g82p := oF g82
   refine wM ?_
   refine wO g82 ?_
   refine wV (v_eql rfl rfl) ?_
   refine wV (v_pick_f rfl g82 rfl) ?_
   refine wA ?_
   refine wl_nil ?_
   refine wc_cond rfl (fun c6 => ?_) (fun c6 => ?_)
   rotate_left
   ·have c6p := oF c6
    refine wc_region ?_
    refine wM ?_
    refine wM ?_
    refine wM ?_
    refine wM ?_
    refine wM ?_
    refine wV (v_addi rfl rfl (by omega)) ?_
    refine wV (v_cut Try.underlying9 rfl rfl rfl (by omega) (by omega) (by omega)) ?_
    rw [show ((i : Int) + ((nxt s i).2.1 : Nat)).toNat = i + (nxt s i).2.1 by omega, Int.toNat_natCast]
    refine wl_appS (bs := l) (s := s.extract i (i + (nxt s i).2.1)) H3 (fun v' => (by repeat constructor)) rfl Try.underlying88 Try.underlying9 info5 rfl rfl (by rw [ByteArray.size_extract]; omega) ?_
    intro A32 c32 w18 H18 hs18
    refine wA ?_
    refine wl_nil ?_
    first
      | (have e_ : qpart s i = [92, 110] := by unfold qpart; rw [if_pos g37p]
         exact ⟨(l ++ [92, 110], A41, c41), (sc rfl (sc rfl (sc rfl (sc rfl (sc rfl (sn _)))))), ⟨by rw [e_], H18.pm (by repeat (first | exact pm_refl _ | constructor | refine pm_skip ?_))⟩⟩)
      | (have e_ : qpart s i = [92, 110] := by unfold qpart; rw [if_pos c2p]
         exact ⟨(l ++ [92, 110], A41, c41), (sc rfl (sc rfl (sc rfl (sc rfl (sc rfl (sn _)))))), ⟨by rw [e_], H18.pm (by repeat (first | exact pm_refl _ | constructor | refine pm_skip ?_))⟩⟩)
      | (have e_ : qpart s i = [92, 116] := by unfold qpart; rw [if_neg c2p, if_pos c3p]
         exact ⟨(l ++ [92, 116], A50, c50), (sc rfl (sc rfl (sc rfl (sc rfl (sc rfl (sn _)))))), ⟨by rw [e_], H18.pm (by repeat (first | exact pm_refl _ | constructor | refine pm_skip ?_))⟩⟩)
      | (have e_ : qpart s i = [92, 114] := by unfold qpart; rw [if_neg c2p, if_neg c3p, if_pos c4p]
         exact ⟨(l ++ [92, 114], A59, c59), (sc rfl (sc rfl (sc rfl (sc rfl (sc rfl (sn _)))))), ⟨by rw [e_], H18.pm (by repeat (first | exact pm_refl _ | constructor | refine pm_skip ?_))⟩⟩)
      | exact ⟨(l ++ [92, c72], A74, c74), (sc rfl (sc rfl (sc rfl (sc rfl (sc rfl (sn _)))))), ⟨by rw [hq72], H18.pm (by repeat (first | exact pm_refl _ | constructor | refine pm_skip ?_))⟩⟩
      | (have e_ : qpart s i = [92, 120, hexd (byA s i / 16), hexd (byA s i % 16)] := by (unfold qpart; first | (have z_ := nxt_f hb; rw [if_neg (by omega), if_neg (by omega), if_neg (by omega), if_neg (by omega), if_neg (by omega), if_pos (.inl hb)]) | rw [if_neg c2p, if_neg c3p, if_neg c4p, if_neg (by omega), if_neg (by omega), if_pos (.inr (by omega))])
         exact ⟨(l ++ [92, 120, hexd (byA s i / 16), hexd (byA s i % 16)], A100, c100), (sc rfl (sc rfl (sc rfl (sc rfl (sc rfl (sn _)))))), ⟨by rw [e_], H18.pm (by repeat (first | exact pm_refl _ | constructor | refine pm_skip ?_))⟩⟩)
      | (have e_ : qpart s i = (s.extract i (i + (nxt s i).2.1)).data.toList := by (unfold qpart; rw [if_neg c2p, if_neg c3p, if_neg c4p, if_neg (by omega), if_neg (by omega), if_neg (by rintro (h_ | h_ | h_) <;> first | omega | exact absurd (h_.symm.trans hb) (by decide))])
         exact ⟨(l ++ (s.extract i (i + (nxt s i).2.1)).data.toList, A32, c32), (sc rfl (sc rfl (sc rfl (sc rfl (sc rfl (sn _)))))), ⟨by rw [e_], H18.pm (by repeat (first | exact pm_refl _ | constructor | refine pm_skip ?_))⟩⟩)
   have c6p := oT c6
   refine wc_tree [0, 1, 2, 3, 4, 5, 6, 7, 8, 9, 10, 11, 12, 15] (fun W => Holds w [] W) mixed ?_
   have Hd := H3.drew
   have HSd : Holds w [] _ := Hd.pm (by repeat (first | exact pm_refl _ | constructor | refine pm_skip ?_))
   refine wjV (k := 0) rfl HSd (fun W HW => v_move rfl) ?_
   refine wjV (k := 1) rfl HSd (fun W HW => v_move rfl) ?_
   refine wjV (k := 2) rfl HSd (fun W HW => v_move rfl) ?_
   refine wjV (k := 3) rfl HSd (fun W HW => v_move rfl) ?_
   refine wjV (k := 4) rfl HSd (fun W HW => v_idxs (i := i) (s := s) Try.underlying9 rfl rfl (by omega)) ?_
   refine wjV (k := 5) rfl HSd (fun W HW => v_quo8 (a := byA s i) 16 (by decide) hby rfl rfl) ?_
   refine wjV (k := 6) rfl HSd (fun W HW => v_idxs (i := byA s i / 16) (s := hexs) Try.underlying9 rfl rfl (show byA s i / 16 < 16 by omega)) ?_
   refine wjV (k := 7) rfl HSd (fun W HW => v_move rfl) ?_
   refine wjV (k := 8) rfl HSd (fun W HW => v_move rfl) ?_
   refine wjV (k := 9) rfl HSd (fun W HW => v_move rfl) ?_
   refine wjV (k := 10) rfl HSd (fun W HW => v_idxs (i := i) (s := s) Try.underlying9 rfl rfl (by omega)) ?_
   refine wjV (k := 11) rfl HSd (fun W HW => v_rem8 (a := byA s i) 16 (by decide) rfl rfl) ?_
   refine wjV (k := 12) rfl HSd (fun W HW => v_idxs (i := byA s i % 16) (s := hexs) Try.underlying9 rfl rfl (show byA s i % 16 < 16 by omega)) ?_
   refine wj_t (k := 13) rfl (by kernel_rfl) ?_
   refine wl_slit (v := .int .u8 0) (z := [.int .u8 0, .int .u8 0, .int .u8 0, .int .u8 0]) (cs := byC [92, 120, hexd (byA s i / 16), hexd (byA s i % 16)]) (sz := 1) Hd rfl Try.underlying88 sz5 zv5 (by decide) (by decide) (by kernel_rfl) rfl (by repeat constructor) ?_
   intro b99 w13 hb99 H13 hs13
   have HS14 : Holds w [] _ := H13.pm (by repeat (first | exact pm_refl _ | constructor | refine pm_skip ?_))
   refine wl_nil (tn ⟨fun _ => HS14, ?_⟩)
   refine wj_t (k := 14) rfl (by kernel_rfl) ?_
   refine wl_appY (bs := l) (ys := [92, 120, hexd (byA s i / 16), hexd (byA s i % 16)]) H13 (fun v' => (by repeat constructor)) rfl Try.underlying88 info5 rfl rfl rfl (fun _ => rfl) (H13.ats (b := b99) (by repeat constructor)) (by (try simp only [List.length_append, List.length_cons, List.length_nil]); omega) ?_
   intro A100 c100 w15 H15 hs15
   have HS16 : Holds w [] _ := H15.pm (by repeat (first | exact pm_refl _ | constructor | refine pm_skip ?_))
   refine wl_nil (tn ⟨fun _ => HS16, ?_⟩)
   refine wjV (k := 15) rfl HS16 (fun W HW => v_assign rfl) ?_
   refine wj_done (by kernel_rfl) ?_
   first
     | (have e_ : qpart s i = [92, 110] := by unfold qpart; rw [if_pos g37p]
        exact ⟨(l ++ [92, 110], A41, c41), (sc rfl (sc rfl (sc rfl (sc rfl (sc rfl (sn _)))))), ⟨by rw [e_], H15.pm (by repeat (first | exact pm_refl _ | constructor | refine pm_skip ?_))⟩⟩)
     | (have e_ : qpart s i = [92, 110] := by unfold qpart; rw [if_pos c2p]
        exact ⟨(l ++ [92, 110], A41, c41), (sc rfl (sc rfl (sc rfl (sc rfl (sc rfl (sn _)))))), ⟨by rw [e_], H15.pm (by repeat (first | exact pm_refl _ | constructor | refine pm_skip ?_))⟩⟩)
     | (have e_ : qpart s i = [92, 116] := by unfold qpart; rw [if_neg c2p, if_pos c3p]
        exact ⟨(l ++ [92, 116], A50, c50), (sc rfl (sc rfl (sc rfl (sc rfl (sc rfl (sn _)))))), ⟨by rw [e_], H15.pm (by repeat (first | exact pm_refl _ | constructor | refine pm_skip ?_))⟩⟩)
     | (have e_ : qpart s i = [92, 114] := by unfold qpart; rw [if_neg c2p, if_neg c3p, if_pos c4p]
        exact ⟨(l ++ [92, 114], A59, c59), (sc rfl (sc rfl (sc rfl (sc rfl (sc rfl (sn _)))))), ⟨by rw [e_], H15.pm (by repeat (first | exact pm_refl _ | constructor | refine pm_skip ?_))⟩⟩)
     | exact ⟨(l ++ [92, c72], A74, c74), (sc rfl (sc rfl (sc rfl (sc rfl (sc rfl (sn _)))))), ⟨by rw [hq72], H15.pm (by repeat (first | exact pm_refl _ | constructor | refine pm_skip ?_))⟩⟩
     | (have e_ : qpart s i = [92, 120, hexd (byA s i / 16), hexd (byA s i % 16)] := by (unfold qpart; first | (have z_ := nxt_f hb; rw [if_neg (by omega), if_neg (by omega), if_neg (by omega), if_neg (by omega), if_neg (by omega), if_pos (.inl hb)]) | rw [if_neg c2p, if_neg c3p, if_neg c4p, if_neg (by omega), if_neg (by omega), if_pos (.inr (by omega))])
        exact ⟨(l ++ [92, 120, hexd (byA s i / 16), hexd (byA s i % 16)], A100, c100), (sc rfl (sc rfl (sc rfl (sc rfl (sc rfl (sn _)))))), ⟨by rw [e_], H15.pm (by repeat (first | exact pm_refl _ | constructor | refine pm_skip ?_))⟩⟩)
     | (have e_ : qpart s i = (s.extract i (i + (nxt s i).2.1)).data.toList := by (unfold qpart; rw [if_neg c2p, if_neg c3p, if_neg c4p, if_neg (by omega), if_neg (by omega), if_neg (by rintro (h_ | h_ | h_) <;> first | omega | exact absurd (h_.symm.trans hb) (by decide))])
        exact ⟨(l ++ (s.extract i (i + (nxt s i).2.1)).data.toList, A32, c32), (sc rfl (sc rfl (sc rfl (sc rfl (sc rfl (sn _)))))), ⟨by rw [e_], H15.pm (by repeat (first | exact pm_refl _ | constructor | refine pm_skip ?_))⟩⟩)
  ·refine wc_skip ?_
   refine wc_block ?_
   refine wcR ?_
   refine wM ?_
   refine wM ?_
   refine wl_call en90 rfl rfl (rnext_calls hs (by omega)) ?_
   rintro _ w26 ⟨rfl, Hc⟩
   have H27 := H.call0 Hc
   refine wM ?_
   refine wV (v_extract rfl rfl) ?_
   refine wV (v_extract rfl rfl) ?_
   refine wV (v_extract rfl rfl) ?_
   refine wA ?_
   refine wA ?_
   refine wA ?_
   refine wl_nil ?_
   refine wc_cut (σ := List UInt8 × Option Addr × Nat) (fun q => [(0, .string s), (4, .string hexs), (5, .slice q.2.1 q.1.length q.2.2), (6, .int .i64 i), (8, .int .i64 (nxt s i).2.1)]) (fun q W => q.1 = l ++ qpart s i ∧ Holds w [BR 5 (.slice q.2.1 q.1.length q.2.2) q.1] W) ?_ ?_
   rotate_left
   ·rintro ⟨l2, A2, k2⟩ Wm ⟨hl2, H⟩
    dsimp only at hl2 H ⊢
    refine wc_region ?_
    refine wM ?_
    refine wM ?_
    refine wV (v_addi rfl rfl (by omega)) ?_
    refine wA ?_
    refine wl_nil ?_
    have hql := qpart_len hin
    subst hl2
    exact ⟨(i + (nxt s i).2.1, l ++ qpart s i, A2, k2), by (dsimp only; rw [show (((i + (nxt s i).2.1 : Nat)) : Int) = (i : Int) + ((nxt s i).2.1 : Nat) from Int.natCast_add _ _]; exact (sc rfl (sc rfl (sc rfl (sc rfl (sn _)))))), ⟨⟨by dsimp only; omega, by dsimp only; rw [List.length_append]; omega, by dsimp only; rw [List.append_assoc, ← qb_step hin]; exact hq⟩, H⟩, by dsimp only; omega⟩
   refine wc_block ?_
   refine wcR ?_
   refine wM ?_
   refine wM ?_
   refine wF hb ?_
   refine wF hb ?_
   refine wV (v_pick_f rfl hb rfl) ?_
   refine wA ?_
   refine wl_nil ?_
   refine wc_cond_f rfl ?_
   refine wcR ?_
   refine wM ?_
   refine wM ?_
   refine wF hb ?_
   refine wF hb ?_
   refine wV (v_pick_f rfl hb rfl) ?_
   refine wA ?_
   refine wl_nil ?_
   refine wc_cond_f rfl ?_
   refine wcR ?_
   refine wM ?_
   refine wM ?_
   refine wF hb ?_
   refine wF hb ?_
   refine wV (v_pick_f rfl hb rfl) ?_
   refine wA ?_
   refine wl_nil ?_
   refine wc_cond_f rfl ?_
   refine wcR ?_
   refine wM ?_
   refine wM ?_
   refine wF hb ?_
   refine wF hb ?_
   refine wF hb ?_
   refine wl_offu rfl rfl rfl ?_
   refine wl_offu rfl rfl rfl ?_
   refine wF hb ?_
   refine wV (v_pick_f rfl hb rfl) ?_
   refine wA ?_
   refine wl_nil ?_
   refine wc_cond_f rfl ?_
   refine wcR ?_
   refine wM ?_
   refine wV (v_not rfl) ?_
   refine wM ?_
   refine wl_off rfl rfl (by rw [hb] <;> rfl) rfl ?_
   refine wl_off rfl rfl (by rw [hb] <;> rfl) rfl ?_
   refine wV (v_pick_t rfl (by rw [hb] <;> rfl) rfl) ?_
   refine wM ?_
   refine wF rfl ?_
   refine wF rfl ?_
   refine wV (v_pick_t rfl rfl rfl) ?_
   refine wA ?_
   refine wl_nil ?_
   refine wc_cond_t rfl ?_
   refine wc_tree [0, 1, 2, 3, 4, 5, 6, 7, 8, 9, 10, 11, 12, 15] (fun W => Holds w [] W) mixed ?_
   have Hd := H27.drew
   have HSd : Holds w [] _ := Hd.pm (by repeat (first | exact pm_refl _ | constructor | refine pm_skip ?_))
   refine wjV (k := 0) rfl HSd (fun W HW => v_move rfl) ?_
   refine wjV (k := 1) rfl HSd (fun W HW => v_move rfl) ?_
   refine wjV (k := 2) rfl HSd (fun W HW => v_move rfl) ?_
   refine wjV (k := 3) rfl HSd (fun W HW => v_move rfl) ?_
   refine wjV (k := 4) rfl HSd (fun W HW => v_idxs (i := i) (s := s) Try.underlying9 rfl rfl (by omega)) ?_
   refine wjV (k := 5) rfl HSd (fun W HW => v_quo8 (a := byA s i) 16 (by decide) hby rfl rfl) ?_
   refine wjV (k := 6) rfl HSd (fun W HW => v_idxs (i := byA s i / 16) (s := hexs) Try.underlying9 rfl rfl (show byA s i / 16 < 16 by omega)) ?_
   refine wjV (k := 7) rfl HSd (fun W HW => v_move rfl) ?_
   refine wjV (k := 8) rfl HSd (fun W HW => v_move rfl) ?_
   refine wjV (k := 9) rfl HSd (fun W HW => v_move rfl) ?_
   refine wjV (k := 10) rfl HSd (fun W HW => v_idxs (i := i) (s := s) Try.underlying9 rfl rfl (by omega)) ?_
   refine wjV (k := 11) rfl HSd (fun W HW => v_rem8 (a := byA s i) 16 (by decide) rfl rfl) ?_
   refine wjV (k := 12) rfl HSd (fun W HW => v_idxs (i := byA s i % 16) (s := hexs) Try.underlying9 rfl rfl (show byA s i % 16 < 16 by omega)) ?_
   refine wj_t (k := 13) rfl (by kernel_rfl) ?_
   refine wl_slit (v := .int .u8 0) (z := [.int .u8 0, .int .u8 0, .int .u8 0, .int .u8 0]) (cs := byC [92, 120, hexd (byA s i / 16), hexd (byA s i % 16)]) (sz := 1) Hd rfl Try.underlying88 sz5 zv5 (by decide) (by decide) (by kernel_rfl) rfl (by repeat constructor) ?_
   intro b99 w28 hb99 H28 hs28
   have HS29 : Holds w [] _ := H28.pm (by repeat (first | exact pm_refl _ | constructor | refine pm_skip ?_))
   refine wl_nil (tn ⟨fun _ => HS29, ?_⟩)
   refine wj_t (k := 14) rfl (by kernel_rfl) ?_
   refine wl_appY (bs := l) (ys := [92, 120, hexd (byA s i / 16), hexd (byA s i % 16)]) H28 (fun v' => (by repeat constructor)) rfl Try.underlying88 info5 rfl rfl rfl (fun _ => rfl) (H28.ats (b := b99) (by repeat constructor)) (by (try simp only [List.length_append, List.length_cons, List.length_nil]); omega) ?_
   intro A100 c100 w30 H30 hs30
   have HS31 : Holds w [] _ := H30.pm (by repeat (first | exact pm_refl _ | constructor | refine pm_skip ?_))
   refine wl_nil (tn ⟨fun _ => HS31, ?_⟩)
   refine wjV (k := 15) rfl HS31 (fun W HW => v_assign rfl) ?_
   refine wj_done (by kernel_rfl) ?_
   first
     | (have e_ : qpart s i = [92, 110] := by unfold qpart; rw [if_pos g37p]
        exact ⟨(l ++ [92, 110], A41, c41), (sc rfl (sc rfl (sc rfl (sc rfl (sc rfl (sn _)))))), ⟨by rw [e_], H30.pm (by repeat (first | exact pm_refl _ | constructor | refine pm_skip ?_))⟩⟩)
     | (have e_ : qpart s i = [92, 110] := by unfold qpart; rw [if_pos c2p]
        exact ⟨(l ++ [92, 110], A41, c41), (sc rfl (sc rfl (sc rfl (sc rfl (sc rfl (sn _)))))), ⟨by rw [e_], H30.pm (by repeat (first | exact pm_refl _ | constructor | refine pm_skip ?_))⟩⟩)
     | (have e_ : qpart s i = [92, 116] := by unfold qpart; rw [if_neg c2p, if_pos c3p]
        exact ⟨(l ++ [92, 116], A50, c50), (sc rfl (sc rfl (sc rfl (sc rfl (sc rfl (sn _)))))), ⟨by rw [e_], H30.pm (by repeat (first | exact pm_refl _ | constructor | refine pm_skip ?_))⟩⟩)
     | (have e_ : qpart s i = [92, 114] := by unfold qpart; rw [if_neg c2p, if_neg c3p, if_pos c4p]
        exact ⟨(l ++ [92, 114], A59, c59), (sc rfl (sc rfl (sc rfl (sc rfl (sc rfl (sn _)))))), ⟨by rw [e_], H30.pm (by repeat (first | exact pm_refl _ | constructor | refine pm_skip ?_))⟩⟩)
     | exact ⟨(l ++ [92, c72], A74, c74), (sc rfl (sc rfl (sc rfl (sc rfl (sc rfl (sn _)))))), ⟨by rw [hq72], H30.pm (by repeat (first | exact pm_refl _ | constructor | refine pm_skip ?_))⟩⟩
     | (have e_ : qpart s i = [92, 120, hexd (byA s i / 16), hexd (byA s i % 16)] := by (unfold qpart; first | (have z_ := nxt_f hb; rw [if_neg (by omega), if_neg (by omega), if_neg (by omega), if_neg (by omega), if_neg (by omega), if_pos (.inl hb)]) | rw [if_neg c2p, if_neg c3p, if_neg c4p, if_neg (by omega), if_neg (by omega), if_pos (.inr (by omega))])
        exact ⟨(l ++ [92, 120, hexd (byA s i / 16), hexd (byA s i % 16)], A100, c100), (sc rfl (sc rfl (sc rfl (sc rfl (sc rfl (sn _)))))), ⟨by rw [e_], H30.pm (by repeat (first | exact pm_refl _ | constructor | refine pm_skip ?_))⟩⟩)
     | (have e_ : qpart s i = (s.extract i (i + (nxt s i).2.1)).data.toList := by (unfold qpart; rw [if_neg c2p, if_neg c3p, if_neg c4p, if_neg (by omega), if_neg (by omega), if_neg (by rintro (h_ | h_ | h_) <;> first | omega | exact absurd (h_.symm.trans hb) (by decide))])
        exact ⟨(l ++ (s.extract i (i + (nxt s i).2.1)).data.toList, A32, c32), (sc rfl (sc rfl (sc rfl (sc rfl (sc rfl (sn _)))))), ⟨by rw [e_], H30.pm (by repeat (first | exact pm_refl _ | constructor | refine pm_skip ?_))⟩⟩)
end Go.Proofs.Ytgdemplcpcacaaa.QuoteR

/-! Data, as the document finds them. -/
namespace Go.Proofs.YtgdemplcpcacaaaFx
open Go Go.RowKit
theorem upto0 {p : Nat → Prop} : ∀ j, j < 0 → p j := fun j h => absurd h (Nat.not_lt_zero j)
theorem uptoS {p : Nat → Prop} {n : Nat} (h : ∀ j, j < n → p j) (hn : p n) : ∀ j, j < n + 1 → p j := fun j hj => by
  rcases Nat.lt_succ_iff_lt_or_eq.1 hj with h1 | h1
  · exact h j h1
  · rw [h1]; exact hn
section
variable {P : Program} {n : Nat} {l : Fr} {w : World} {v : Value}
theorem resC13 {fn : Func} {a t b : Tmp} {ty : TypeId} {p : Addr} {v1 v3 : Value} (hr : fn.results = #[.tmp a, .cell t ty, .tmp b]) (h1 : lk l a = some v1) (h : lk l t = some (.pointer (some p))) (hv : (loadVar ty p).run P w = .ok v w) (h2 : lk l b = some v3) : Res P n l w fn (.tuple #[v1, v, v3]) := fun A ha => by
  have g1 := ha.at_ _ _ h1
  have g2 := ha.at_ _ _ h
  have g3 := ha.at_ _ _ h2
  simp [results, hr, Array.getD_eq_getD_getElem?, g1, g2, g3, asAddr, hv]
end
theorem Rd.takes {α : Type} {d : Kn α} {w : World} {A : Option Addr} {xs : List α} (h : Rd d w A xs) (i : Nat) : Rd d w A (xs.take i) := ⟨fun h1 => h.ad (by rw [List.length_take] at h1; omega), fun j x hx => by
  rw [List.getElem?_take] at hx
  split at hx
  · exact h.el j x hx
  · cases hx⟩
section
variable {l : List Dt} {s : ByteArray} {i j : Nat}
theorem mem_nms : s ∈ nms l ↔ ∃ j, j < l.length ∧ (l.getD j dt0).name = s := by
  unfold nms
  rw [List.mem_map]
  constructor
  · rintro ⟨d, hd, rfl⟩
    obtain ⟨j, hj, rfl⟩ := List.mem_iff_getElem.1 hd
    exact ⟨j, hj, by rw [List.getD_eq_getElem?_getD, List.getElem?_eq_getElem hj]; rfl⟩
  · rintro ⟨j, hj, rfl⟩
    exact ⟨_, getD_mem hj, rfl⟩
theorem fnd_cat (A B : List (ByteArray × Ct)) (s : ByteArray) : fnd (A ++ B) s = (fnd A s).or (fnd B s) := List.find?_append
theorem fnd_here (hi : i < l.length) (hj : j < (l.getD i dt0).ctors.length) (h0 : fnd (upC l i j) s = none) (hs : ((l.getD i dt0).ctors.getD j ct0).name = s) : fnd (flat l) s = some ((l.getD i dt0).name, (l.getD i dt0).ctors.getD j ct0) := by
  obtain ⟨R, hR⟩ := upC_prefix (l := l) (i := i) (j := j + 1) hi
  rw [hR, upC_succ hj, fnd_cat, fnd_app, h0, if_pos hs]
  rfl
theorem fnd_next (hj : j < (l.getD i dt0).ctors.length) (h0 : fnd (upC l i j) s = none) (hs : ((l.getD i dt0).ctors.getD j ct0).name ≠ s) : fnd (upC l i (j + 1)) s = none := by
  rw [upC_succ hj, fnd_app, h0, if_neg hs]
  rfl
theorem DOk.takes (h : DOk l) (i : Nat) : DOk (l.take i) := ⟨by have := h.len; rw [List.length_take]; omega, fun d hd => h.n d (List.mem_of_mem_take hd), by
    have h1 := h.f
    have h2 : flat l = flat (l.take i) ++ flat (l.drop i) := by rw [← flat_app, List.take_append_drop]
    rw [h2, List.length_append] at h1
    omega, fun p hp => h.cn p (by
    have h2 : flat l = flat (l.take i) ++ flat (l.drop i) := by rw [← flat_app, List.take_append_drop]
    rw [h2]
    exact List.mem_append_left _ hp)⟩
/-- The names of constructors so far. -/
def cnm (P : List (ByteArray × Ct)) : List ByteArray := P.map fun p => p.2.name
theorem cnm_len (P : List (ByteArray × Ct)) : (cnm P).length = P.length := List.length_map ..
theorem cnm_succ (hj : j < (l.getD i dt0).ctors.length) : cnm (upC l i (j + 1)) = cnm (upC l i j) ++ [((l.getD i dt0).ctors.getD j ct0).name] := by rw [upC_succ hj]; unfold cnm; rw [List.map_append]; rfl
theorem cnm_get {P : List (ByteArray × Ct)} (h : j < P.length) : (cnm P).getD j s0 = (P.getD j (s0, ct0)).2.name := by
  unfold cnm
  rw [List.getD_eq_getElem?_getD, List.getD_eq_getElem?_getD, List.getElem?_map, List.getElem?_eq_getElem h]
  rfl
theorem fnd_take {P : List (ByteArray × Ct)} (hi : i ≤ P.length) : fnd (P.take i) s = none ↔ ∀ j, j < i → (cnm P).getD j s0 ≠ s := by
  rw [fnd_none]
  constructor
  · intro h j hj
    rw [cnm_get (by omega)]
    refine h _ ?_
    rw [List.getD_eq_getElem?_getD, List.getElem?_eq_getElem (by omega), Option.getD_some]
    rw [List.mem_take_iff_getElem]
    exact ⟨j, by omega, rfl⟩
  · intro h p hp
    obtain ⟨j, hj, rfl⟩ := List.mem_take_iff_getElem.1 hp
    have := h j (by omega)
    rw [cnm_get (by omega), List.getD_eq_getElem?_getD, List.getElem?_eq_getElem (by omega)] at this
    exact this
end
end Go.Proofs.YtgdemplcpcacaaaFx
