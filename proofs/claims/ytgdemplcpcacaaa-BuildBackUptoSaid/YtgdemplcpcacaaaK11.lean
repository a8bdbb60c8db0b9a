/- Rows of bytes of the call's own. Escapes, walked: digits, runes, what an escape stands for; a builder's length. Texts within quotes, read: the program's. Equality of a pair of numbers of two types. -/
import Derived.Test.YtgdemplcpcacaaaK10
import Derived.Test.YtgdemplcpcacaaaK02
import Derived.Test.YtgdemplcpcacaaaProg
import Derived.Test.YtgdemplcpcacaaaK03
import Derived.Lib.Bytealg
import Derived.Laws.Externs
import Derived.Test.YtgdemplcpcacaaaK04
set_option linter.unusedVariables false
set_option linter.unusedSimpArgs false
/-! Rows of bytes of the call's own. -/
namespace Go.Proofs.YtgdemplcpcacaaaFx
open Go Go.RowKit
abbrev BR (e : TypeId) (v : Value) (l : List UInt8) : Ch := Raw e 1 v l.length (byC l)
theorem byC_one (l : List UInt8) : ∀ u ∈ byC l, u.oneCell' = true := fun u hu => by
  obtain ⟨b, _, rfl⟩ := List.mem_map.1 hu
  rfl
theorem Holds.litB {W0 w : World} {L : List Ch} {b e : Nat} {l : List UInt8} (H : Holds W0 (Blk b e (byC l) :: L) w) (hm : l.length ≤ maxLen) : Holds W0 (BR e (.slice (some ⟨b, 0, none⟩) l.length l.length) l :: L) w := by
  have hfl := byC_len l
  generalize hcs : byC l = cs at H hfl
  refine H.head_imp fun S (h : S b ∧ w.heap[b]? = some (.cells cs.toArray e (0, 0))) => ⟨fun k hk => ?_, by rw [Nat.mul_one]; exact byC_len l, .inr ⟨b, l.length, cs.toArray, rfl, Nat.zero_le _, h.2, Nat.le_refl _, hm, ?_, ?_⟩⟩
  · have : b = k := by simpa [Value.ownBlock] using hk
    rw [← this]
    exact h.1
  · simpa using hfl
  · rw [hcs, Nat.mul_one, ← hfl]
    simp
section
variable {P : Program} {n : Nat} {Q : Post} {l : Fr} {w W0 : World} {L : List Ch} {ops : Array Oper} {rest : List Oper} {d b : Nat} {x sx : Operand} {ty t e u : TypeId} {pos : String} {af : Array Edge} {v : Value} {bs ys : List UInt8}
theorem br_app {N : Nat} {v' : Value} : Raw e 1 v' (bs.length + ys.length) (byC bs ++ byC ys) = BR e v' (bs ++ ys) := by
  unfold BR
  rw [List.length_append, byC_app]
/-- append(row of bytes, bytes...). -/
theorem wl_appY {z : Value} {A : Option Addr} {c : Nat} {L' : Value → List Ch} (H : Holds W0 L w) (U : ∀ v', Upd L (BR e v bs) (BR e v' (bs ++ ys)) (L' v')) (hn : Nat.ble (d + 1) n = true)
    (ht : P.underlying t = some (.slice e)) (hi : (P.info? e).map (fun i => (i.zero, i.size, i.bytes)) = some (some z, 1, 1)) (hz : z.cells.size = 1)
    (hs : ev l sx = some v) (hx : ev l x = some (.slice A ys.length c)) (hA : 0 < ys.length → A = some (adr A)) (hc : ∀ j u, (byC ys)[j]? = some u → w.cell? ((adr A).add j) = some u) (hb : bs.length + ys.length ≤ 140737488355328)
    (h : ∀ A c w', Holds W0 (L' (.slice A (bs ++ ys).length c)) w' → w.heap.size ≤ w'.heap.size → wl P n ops rest Q ((d, .slice A (bs ++ ys).length c) :: l) w') : wl P n ops (⟨some d, .call { callee := .builtin .append, args := #[sx, x], argTypes := #[t, t] }, ty, pos, af, none⟩ :: rest) Q l w := by
  refine wl_append (L' := L') (cs := byC bs) (news := byC ys) H (fun v' => by rw [br_app (N := 0)]; exact U v') hn ht hi hz (by omega) hs hx hA (by rw [Nat.mul_one]; exact byC_len ys) hc (byC_one ys) (by omega) (by omega) fun v' w' H' hsz => ?_
  obtain ⟨_, _, ⟨_, ho⟩, _⟩ := H'.upd (U v').swap
  obtain ⟨A, c, rfl, _⟩ := own_slice ho
  exact h A c w' H' hsz
/-- append(row of bytes, string...). -/
theorem wl_appS {s : ByteArray} {L' : Value → List Ch} (H : Holds W0 L w) (U : ∀ v', Upd L (BR e v bs) (BR e v' (bs ++ s.data.toList)) (L' v')) (hn : Nat.ble (d + 1) n = true)
    (ht : P.underlying t = some (.slice e)) (hu : P.underlying u = some .string) (hi : (P.info? e).map (fun i => (i.zero, i.size, i.bytes)) = some (some (.int .u8 0), 1, 1))
    (hs : ev l sx = some v) (hx : ev l x = some (.string s)) (hb : bs.length + s.size ≤ 140737488355328)
    (h : ∀ A c w', Holds W0 (L' (.slice A (bs ++ s.data.toList).length c)) w' → w.heap.size ≤ w'.heap.size → wl P n ops rest Q ((d, .slice A (bs ++ s.data.toList).length c) :: l) w') : wl P n ops (⟨some d, .call { callee := .builtin .append, args := #[sx, x], argTypes := #[t, u] }, ty, pos, af, none⟩ :: rest) Q l w := by
  have e1 : (bs ++ s.data.toList).length = bs.length + s.size := by rw [List.length_append, Array.length_toList]; rfl
  refine wl_appStr (L' := L') (cs := byC bs) (N := bs.length) H (fun v' => ?_) hn ht hu hi hs hx hb fun A c w' H' hsz => ?_
  · have e2 : Raw e 1 v' (bs.length + s.size) (byC bs ++ Lib.strCells s) = BR e v' (bs ++ s.data.toList) := by
      unfold BR
      rw [e1, byC_app]
      rfl
    rw [e2]
    exact U v'
  · rw [← e1] at H' ⊢
    exact h A c w' H' hsz
end
theorem nxt_f {s : ByteArray} {i : Nat} (h : (nxt s i).2.2 = false) : (nxt s i).1 = 0 := by
  unfold nxt at h ⊢
  split at h
  · rename_i h1
    rw [if_pos h1]
  · cases h
section
variable {P : Program} {n : Nat} {l : Fr} {w : World} {x y : Operand} {ty t t2 : TypeId} {pos : String} {af : Array Edge} {gd : Option (Nat × Bool)} {dst : Option Tmp} {a : Nat}
theorem v_quo8 (b : Nat) (hb : 0 < b) (ha : a < 256) (hx : ev l x = some (.int .u8 (a : Int))) (hy : ev l y = some (.int .u8 (b : Int))) : Vs P n l ⟨dst, .binOp .quo t x y t2, ty, pos, af, gd⟩ w (.int .u8 ((a / b : Nat) : Int)) := by
  have h := v_quo (P := P) (n := n) (w := w) (ty := ty) (t := t) (t2 := t2) (pos := pos) (af := af) (gd := gd) (dst := dst) hx hy (by omega)
  have e : Int.tdiv (a : Int) (b : Int) = ((a / b : Nat) : Int) := by rw [Int.tdiv_eq_ediv_of_nonneg (by omega)]; rfl
  rwa [e, w8 (Nat.lt_of_le_of_lt (Nat.div_le_self _ _) ha)] at h
theorem v_rem8 (b : Nat) (hb : 0 < b) (hx : ev l x = some (.int .u8 (a : Int))) (hy : ev l y = some (.int .u8 (b : Int))) : Vs P n l ⟨dst, .binOp .rem t x y t2, ty, pos, af, gd⟩ w (.int .u8 ((a % b : Nat) : Int)) := by
  have h := v_rem (P := P) (n := n) (w := w) (ty := ty) (t := t) (t2 := t2) (pos := pos) (af := af) (gd := gd) (dst := dst) hx hy (by omega)
  have e : Int.tmod (a : Int) (b : Int) = ((a % b : Nat) : Int) := by rw [Int.tmod_eq_emod_of_nonneg (by omega)]; rfl
  rwa [e] at h
end
/-- A row of bytes, as it reads. -/
theorem Holds.brAt {W0 w : World} {L : List Ch} {e n c : Nat} {A : Option Addr} {l : List UInt8} (H : Holds W0 L w) (U : Upd L (BR e (.slice A n c) l) (BR e (.slice A n c) l) L) : (0 < l.length → A = some (adr A)) ∧ ∀ j u, (byC l)[j]? = some u → w.cell? ((adr A).add j) = some u := by
  obtain ⟨A', c', h, _, h2, h3⟩ := own_slice (H.raw U)
  injection h with h1 _ _
  subst h1
  exact ⟨h2, h3⟩
end Go.Proofs.YtgdemplcpcacaaaFx

/-! Escapes, walked: digits, runes, what an escape stands for; a builder's length. -/
namespace Go.Proofs.Ytgdemplcpcacaaa.EscW
open Go Go.RowKit Go.Proofs.YtgdemplcpcacaaaFx Go.Proofs.Ytgdemplcpcacaaa.BldW
theorem en100 : Enters Try.prog 100 := enters Try.func100 (by kernel_rfl) rfl
theorem en101 : Enters Try.prog 101 := enters Try.func101 (by kernel_rfl) rfl
theorem en93 : Enters Try.prog 93 := enters Try.func93 (by kernel_rfl) rfl
theorem en94 : Enters Try.prog 94 := enters Try.func94 (by kernel_rfl) rfl
theorem fa90_1 : FieldAt Try.prog 90 1 1 := field_at (sz := 0) Try.underlying90 rfl (by kernel_rfl) rfl
theorem one88 : One Try.prog 88 := one_of Try.underlying88 rfl (by kernel_rfl)
theorem sz5 : ∀ W, (sizeOf 5).run Try.prog W = .ok 1 W := size_of (by kernel_rfl)
theorem zv5 : ∀ W, (zeroValue 5).run Try.prog W = .ok (.int .u8 0) W := zero_of (by kernel_rfl)

theorem v_idxA {P : Program} {n : Nat} {l : Fr} {w : World} {x y : Operand} {ty t : TypeId} {pos : String} {af : Array Edge} {gd : Option (Nat × Bool)} {dst : Option Tmp} {k : IntKind} {s : ByteArray} {i : Nat} (ht : P.underlying t = some .string) (hx : ev l x = some (.string s)) (hy : ev l y = some (.int k (i : Int))) (h1 : i < s.size) : Vs P n l ⟨dst, .index t x y, ty, pos, af, gd⟩ w (.int .u8 ((byA s i : Nat) : Int)) := by
  have h := v_indexs (P := P) (n := n) (w := w) (ty := ty) (pos := pos) (af := af) (dst := dst) (gd := gd) ht hx hy (by omega) (by rw [Int.toNat_natCast]; exact h1)
  simp only [Int.toNat_natCast] at h
  have e : ((s[i].toNat : Nat) : Int) = ((byA s i : Nat) : Int) := by
    unfold byA
    rw [Array.getD_eq_getD_getElem?, Array.getElem?_eq_getElem h1]
    rfl
  rw [e] at h
  exact h
theorem ibs_run (s : ByteArray) (c : Int) (w : World) : (callFunc 102 [.string s, .int .u8 c].toArray).run Try.prog w = .ok (.value (.int .i64 (Lib.indexByte s.data.toList c.toNat.toUInt8))) w := by
  have h := run_callFunc_extern Try.func102 (by kernel_rfl) (by kernel_rfl) (by kernel_rfl) (e := Extern.BytealgIndexByte.indexByte) (by kernel_rfl) #[.string s, .int .u8 c] w
  rw [Lib.run_indexByteString] at h
  exact h

set_option maxRecDepth 100000 in
theorem ib1_calls {s : ByteArray} {c : Int} {w : World} : Calls Try.prog 101 #[.string s, .int .u8 c] w fun e w' => ∃ v, e = .returned v ∧ v = .int .i64 (Lib.indexByte s.data.toList c.toNat.toUInt8) ∧ Holds w [] w' := by
  refine calls_of Try.func101 rfl Try.ntmps101 rfl ?_
  have H := Holds.start w
  refine wcR ?_
  refine wA ?_
  refine wl_nil ?_
  refine wcR ?_
  refine wM ?_
  refine wM ?_
  refine wl_ext (vs := [.string s, .int .u8 c]) (v := .int .i64 (Lib.indexByte s.data.toList c.toNat.toUInt8)) rfl rfl (ibs_run _ _ _) ?_
  refine wA ?_
  refine wl_nil ?_
  refine wc_ret ?_
  exact ⟨_, res1 rfl rfl, rfl, H.pm (by repeat (first | exact Pm.nil _ | constructor))⟩

set_option maxRecDepth 100000 in
theorem ib_calls {s : ByteArray} {c : Int} {w : World} : Calls Try.prog 100 #[.string s, .int .u8 c] w fun e w' => ∃ v, e = .returned v ∧ v = .int .i64 (Lib.indexByte s.data.toList c.toNat.toUInt8) ∧ Holds w [] w' := by
  refine calls_of Try.func100 rfl Try.ntmps100 rfl ?_
  have H := Holds.start w
  refine wcR ?_
  refine wA ?_
  refine wl_nil ?_
  refine wcR ?_
  refine wM ?_
  refine wM ?_
  refine wl_call en101 rfl rfl (ib1_calls) ?_
  rintro _ w1 ⟨rfl, Hc⟩
  have H2 := H.call0 Hc
  refine wA ?_
  refine wl_nil ?_
  refine wc_ret ?_
  exact ⟨_, res1 rfl rfl, rfl, H2.pm (by repeat (first | exact Pm.nil _ | constructor))⟩

theorem ibh_calls {c : Int} {w : World} : Calls Try.prog 100 #[.string hexs, .int .u8 c] w fun e w' => ∃ v, e = .returned v ∧ ∃ d : Int, v = .int .i64 d ∧ d = Lib.indexByte hexs.data.toList c.toNat.toUInt8 ∧ Holds w [] w' := (ib_calls (s := hexs) (c := c) (w := w)).mono fun e w' ⟨v, h1, h2, h3⟩ => ⟨v, h1, _, h2, rfl, h3⟩
theorem hexI : ∀ c : Fin 256, (-1 ≤ Lib.indexByte hexs.data.toList (c.1 : Int).toNat.toUInt8 ∧ Lib.indexByte hexs.data.toList (c.1 : Int).toNat.toUInt8 < 16) ∧ ∀ p : Fin 16, c.1 = (hexd p.1).toNat → Lib.indexByte hexs.data.toList (c.1 : Int).toNat.toUInt8 = (p.1 : Int) := by decide +kernel
theorem hexI_rng {c : Nat} (h : c < 256) : -1 ≤ Lib.indexByte hexs.data.toList (c : Int).toNat.toUInt8 ∧ Lib.indexByte hexs.data.toList (c : Int).toNat.toUInt8 < 16 := (hexI ⟨c, h⟩).1
theorem hexI_is {c p : Nat} (h : c < 256) (hp : p < 16) (e : c = (hexd p).toNat) : Lib.indexByte hexs.data.toList (c : Int).toNat.toUInt8 = (p : Int) := (hexI ⟨c, h⟩).2 ⟨p, hp⟩ e
/-- The digits so far. -/
def DI (s : ByteArray) (most : Nat) (n k : Nat) : Prop := (k ≤ most ∧ k ≤ s.size) ∧ n < 16 ^ k ∧ ∀ p q, p < 16 → q < 16 → 2 ≤ s.size → most = 2 → byA s 0 = (hexd p).toNat → byA s 1 = (hexd q).toNat → (k = 0 ∧ n = 0) ∨ (k = 1 ∧ n = p) ∨ (k = 2 ∧ n = p * 16 + q)
theorem DI.small {s : ByteArray} {most n k : Nat} (h : DI s most n k) (hm : most ≤ 6) : n < 16777216 := Nat.lt_of_lt_of_le h.2.1 (Nat.le_trans (Nat.pow_le_pow_right (by omega) (show k ≤ 6 by have := h.1.1; omega)) (by decide))
theorem DI.start (s : ByteArray) (most : Nat) : DI s most 0 0 := ⟨⟨Nat.zero_le _, Nat.zero_le _⟩, by decide, fun p q _ _ _ _ _ _ => .inl ⟨rfl, rfl⟩⟩
theorem DI.next {s : ByteArray} {most n k d : Nat} (h : DI s most n k) (hk : k < most) (hs : k < s.size) (hd : Lib.indexByte hexs.data.toList ((byA s k : Nat) : Int).toNat.toUInt8 = (d : Int)) : DI s most (16 * n + d) (k + 1) := by
  have hr := hexI_rng (byA_lt s k)
  refine ⟨⟨by omega, by omega⟩, ?_, fun p q hp hq h2 hm e0 e1 => ?_⟩
  · have := h.2.1
    rw [Nat.pow_succ]
    omega
  · rcases h.2.2 p q hp hq h2 hm e0 e1 with ⟨rfl, rfl⟩ | ⟨rfl, rfl⟩ | ⟨rfl, _⟩
    · have := hexI_is (byA_lt s 0) hp e0
      exact .inr (.inl ⟨rfl, by omega⟩)
    · have := hexI_is (byA_lt s 1) hq e1
      exact .inr (.inr ⟨rfl, by omega⟩)
    · omega
/-- What digits are. -/
def DR (s : ByteArray) (most n k : Nat) : Prop := (k ≤ most ∧ k ≤ s.size) ∧ n < 16777216 ∧ ∀ p q, p < 16 → q < 16 → 2 ≤ s.size → most = 2 → byA s 0 = (hexd p).toNat → byA s 1 = (hexd q).toNat → k = 2 ∧ n = p * 16 + q
theorem DI.stop {s : ByteArray} {most n k : Nat} (h : DI s most n k) (hm : most ≤ 6) (hb : ¬ k < most ∨ ¬ k < s.size ∨ Lib.indexByte hexs.data.toList ((byA s k : Nat) : Int).toNat.toUInt8 < 0) : DR s most n k := ⟨h.1, h.small hm, fun p q hp hq h2 hm2 e0 e1 => by
  rcases h.2.2 p q hp hq h2 hm2 e0 e1 with ⟨rfl, rfl⟩ | ⟨rfl, rfl⟩ | h3
  · have := hexI_is (byA_lt s 0) hp e0
    omega
  · have := hexI_is (byA_lt s 1) hq e1
    omega
  · exact h3⟩

set_option maxHeartbeats 1600000 in
set_option maxRecDepth 100000 in
theorem digits_calls {s : ByteArray} {most : Nat} {w : World} (hs : s.size ≤ 1099511627776) (hm : most ≤ 6) : Calls Try.prog 93 #[.string s, .int .i64 most] w fun e w' => ∃ v, e = .returned v ∧ ∃ n k : Nat, v = .tuple #[.int .i64 n, .int .i64 k] ∧ DR s most n k ∧ Holds w [] w' := by
  refine calls_of Try.func93 rfl Try.ntmps93 rfl ?_
  have H := Holds.start w
  refine wcR ?_
  refine wA ?_
  refine wA ?_
  refine wl_nil ?_
  refine wcR ?_
  refine wA ?_
  refine wA ?_
  refine wl_nil ?_
  refine wc_seq ?_
  refine wc_block ?_
  refine wc_loop (σ := Nat × Nat) (fun q => [(0, .string s), (1, .int .i64 most), (6, .int .i64 q.1), (7, .int .i64 q.2)]) (fun q W => DI s most q.1 q.2 ∧ Holds w [] W) (fun q => most - q.2) (0, 0) (sc rfl (sc rfl (sc rfl (sc rfl (sn _))))) ⟨DI.start s most, H⟩ ?_
  rintro ⟨n, k⟩ W0 ⟨hD, H⟩
  dsimp only at hD H ⊢
  have hsm := hD.small hm
  have hD1 := hD.1
  refine wc_seq ?_
  refine wcR ?_
  refine wM ?_
  refine wM ?_
  refine wV (v_lss rfl rfl) ?_
  refine wM ?_
  refine wl_guard rfl rfl rfl (fun g12 => ?_) (fun g12 => ?_)
  rotate_left
  ·have g12p := oF g12
   refine wF g12 ?_
   refine wF g12 ?_
   refine wF g12 ?_
   refine wV (v_pick_f rfl g12 rfl) ?_
   refine wl_nil ?_
   refine wc_cond_f rfl ?_
   refine wc_exit ?_
   refine wcR ?_
   refine wM ?_
   refine wM ?_
   refine wA ?_
   refine wA ?_
   refine wl_nil ?_
   refine wc_ret ?_
   first
     | (have q_ := c1p
        exact ⟨_, res2 rfl rfl rfl, n, k, rfl, hD.stop hm (.inr (.inr (by rw [← hd]; omega))), H.pm (by repeat (first | exact Pm.nil _ | constructor))⟩)
     | exact ⟨_, res2 rfl rfl rfl, n, k, rfl, hD.stop hm (by omega), H.pm (by repeat (first | exact Pm.nil _ | constructor))⟩
  have g12p := oT g12
  refine wM ?_
  refine wO g12 ?_
  refine wM ?_
  refine wO g12 ?_
  refine wV (v_lens Try.underlying9 rfl) ?_
  refine wO g12 ?_
  refine wV (v_lss rfl rfl) ?_
  refine wV (v_pick_t rfl g12 rfl) ?_
  refine wl_nil ?_
  refine wc_cond rfl (fun c0 => ?_) (fun c0 => ?_)
  rotate_left
  ·have c0p := oF c0
   refine wc_exit ?_
   refine wcR ?_
   refine wM ?_
   refine wM ?_
   refine wA ?_
   refine wA ?_
   refine wl_nil ?_
   refine wc_ret ?_
   first
     | (have q_ := c1p
        exact ⟨_, res2 rfl rfl rfl, n, k, rfl, hD.stop hm (.inr (.inr (by rw [← hd]; omega))), H.pm (by repeat (first | exact Pm.nil _ | constructor))⟩)
     | exact ⟨_, res2 rfl rfl rfl, n, k, rfl, hD.stop hm (by omega), H.pm (by repeat (first | exact Pm.nil _ | constructor))⟩
  have c0p := oT c0
  refine wc_skip ?_
  refine wc_block ?_
  refine wcR ?_
  refine wM ?_
  refine wM ?_
  refine wV (v_idxA (i := k) (s := s) Try.underlying9 rfl rfl (by omega)) ?_
  refine wl_call en100 rfl rfl (ibh_calls) ?_
  rintro _ w2 ⟨d, rfl, hd, Hc⟩
  have H3 := H.call0 Hc
  have hrg := hexI_rng (byA_lt s k)
  rw [← hd] at hrg
  refine wA ?_
  refine wl_nil ?_
  refine wc_seq ?_
  refine wcR ?_
  refine wM ?_
  refine wV (v_lss rfl rfl) ?_
  refine wl_nil ?_
  refine wc_cond rfl (fun c1 => ?_) (fun c1 => ?_)
  ·have c1p := oT c1
   refine wc_exit ?_
   refine wcR ?_
   refine wM ?_
   refine wM ?_
   refine wA ?_
   refine wA ?_
   refine wl_nil ?_
   refine wc_ret ?_
   first
     | (have q_ := c1p
        exact ⟨_, res2 rfl rfl rfl, n, k, rfl, hD.stop hm (.inr (.inr (by rw [← hd]; omega))), H3.pm (by repeat (first | exact Pm.nil _ | constructor))⟩)
     | exact ⟨_, res2 rfl rfl rfl, n, k, rfl, hD.stop hm (by omega), H3.pm (by repeat (first | exact Pm.nil _ | constructor))⟩
  have c1p := oF c1
  refine wc_skip ?_
  refine wcR ?_
  refine wM ?_
  refine wV (v_mul rfl rfl) ?_
  rw [show IntKind.i64.wrap (16 * (n : Int)) = 16 * (n : Int) from (by rw [IntKind.wrap_i64]; omega)]
  refine wM ?_
  refine wV (v_addi rfl rfl (by omega)) ?_
  refine wA ?_
  refine wl_nil ?_
  refine wc_region ?_
  refine wM ?_
  refine wV (v_addi rfl rfl (by omega)) ?_
  refine wA ?_
  refine wl_nil ?_
  obtain ⟨d', rfl⟩ : ∃ d' : Nat, d = (d' : Int) := ⟨_, (Int.toNat_of_nonneg (by omega)).symm⟩
  exact ⟨(16 * n + d', k + 1), by (dsimp only; rw [show (((16 * n + d' : Nat)) : Int) = 16 * (n : Int) + (d' : Int) by omega]; exact (sc rfl (sc rfl (sc rfl (sc rfl (sn _)))))), ⟨hD.next (by omega) (by omega) hd.symm, H3.pm (by repeat (first | exact Pm.nil _ | constructor))⟩, by dsimp only; omega⟩

set_option maxRecDepth 100000 in
theorem isRune_calls {r : Int} {w : World} : Calls Try.prog 94 #[.int .i32 r] w fun e w' => ∃ v, e = .returned v ∧ ∃ b, v = .bool b ∧ Holds w [] w' := by
  refine calls_of Try.func94 rfl Try.ntmps94 rfl ?_
  have H := Holds.start w
  refine wcR ?_
  refine wA ?_
  refine wl_nil ?_
  refine wcR ?_
  refine wM ?_
  refine wV (v_geq rfl rfl) ?_
  refine wM ?_
  refine wl_guard rfl rfl rfl (fun g5 => ?_) (fun g5 => ?_)
  rotate_left
  ·have g5p := oF g5
   refine wF g5 ?_
   refine wV (v_pick_f rfl g5 rfl) ?_
   refine wM ?_
   refine wF rfl ?_
   refine wF rfl ?_
   refine wF rfl ?_
   refine wl_offu rfl rfl rfl ?_
   refine wl_offu rfl rfl rfl ?_
   refine wF rfl ?_
   refine wV (v_pick_f rfl rfl rfl) ?_
   refine wA ?_
   refine wl_nil ?_
   refine wc_ret ?_
   exact ⟨_, res1 rfl rfl, _, rfl, H.pm (by repeat (first | exact Pm.nil _ | constructor))⟩
  have g5p := oT g5
  refine wM ?_
  refine wO g5 ?_
  refine wV (v_leq rfl rfl) ?_
  refine wV (v_pick_t rfl g5 rfl) ?_
  refine wM ?_
  refine wl_guard rfl rfl rfl (fun g9 => ?_) (fun g9 => ?_)
  rotate_left
  ·have g9p := oF g9
   refine wF g9 ?_
   refine wF g9 ?_
   refine wl_offu rfl rfl rfl ?_
   refine wl_offu rfl rfl rfl ?_
   refine wF g9 ?_
   refine wV (v_pick_f rfl g9 rfl) ?_
   refine wA ?_
   refine wl_nil ?_
   refine wc_ret ?_
   exact ⟨_, res1 rfl rfl, _, rfl, H.pm (by repeat (first | exact Pm.nil _ | constructor))⟩
  have g9p := oT g9
  refine wM ?_
  refine wO g9 ?_
  refine wV (v_lss rfl rfl) ?_
  refine wO g9 ?_
  refine wM ?_
  refine wl_guard rfl rfl rfl (fun g12 => ?_) (fun g12 => ?_)
  rotate_left
  ·have g12p := oT g12
   refine wF g12 ?_
   refine wO g9 ?_
   refine wV (v_pick_t rfl g12 rfl) ?_
   refine wV (v_pick_t rfl g9 rfl) ?_
   refine wA ?_
   refine wl_nil ?_
   refine wc_ret ?_
   exact ⟨_, res1 rfl rfl, _, rfl, H.pm (by repeat (first | exact Pm.nil _ | constructor))⟩
  have g12p := oF g12
  refine wM ?_
  refine wO g12 ?_
  refine wV (v_gtr rfl rfl) ?_
  refine wO g9 ?_
  refine wV (v_pick_f rfl g12 rfl) ?_
  refine wV (v_pick_t rfl g9 rfl) ?_
  refine wA ?_
  refine wl_nil ?_
  refine wc_ret ?_
  exact ⟨_, res1 rfl rfl, _, rfl, H.pm (by repeat (first | exact Pm.nil _ | constructor))⟩

/-- What an escape stands for. -/
def EscR (t : ByteArray) (c : ByteArray) (n : Nat) : Prop := n ≤ t.size ∧ c.size ≤ 4 ∧ (n ≠ 0 → 0 < c.size) ∧ ∀ u m, EscQ t u m → c = ⟨#[u]⟩ ∧ n = m
section
variable {t : ByteArray}
theorem EscR.no (h : ∀ u m, ¬ EscQ t u m) : EscR t ⟨#[]⟩ 0 := ⟨Nat.zero_le _, by decide, fun h => absurd rfl h, fun u m hE => absurd hE (h u m)⟩
theorem EscR.nob (h : t.size < 2 ∨ (byA t 1 ≠ 110 ∧ byA t 1 ≠ 116 ∧ byA t 1 ≠ 114 ∧ byA t 1 ≠ 34 ∧ byA t 1 ≠ 92 ∧ byA t 1 ≠ 120)) : EscR t ⟨#[]⟩ 0 := EscR.no fun u m hE => by
  rcases hE with ⟨h1, _, h2⟩ | ⟨h1, _, h2, _⟩
  · omega
  · omega
theorem EscR.one {u : UInt8} (h2 : 2 ≤ t.size) (h : (byA t 1 = 110 ∧ u = 10) ∨ (byA t 1 = 116 ∧ u = 9) ∨ (byA t 1 = 114 ∧ u = 13) ∨ ((byA t 1 = 34 ∨ byA t 1 = 92) ∧ u.toNat = byA t 1)) : EscR t ⟨#[u]⟩ 2 := ⟨h2, show (1 : Nat) ≤ 4 by decide, fun _ => show (0 : Nat) < 1 by decide, fun u' m hE => by
  have e : u' = u ∧ m = 2 := by
    rcases hE with ⟨_, hm, h3⟩ | ⟨_, _, h3, _⟩
    · refine ⟨?_, hm⟩
      rcases h with ⟨a, rfl⟩ | ⟨a, rfl⟩ | ⟨a, rfl⟩ | ⟨a, b⟩
      · rcases h3 with ⟨c, d⟩ | ⟨c, d⟩ | ⟨c, d⟩ | ⟨c, d⟩
        · exact d
        all_goals omega
      · rcases h3 with ⟨c, d⟩ | ⟨c, d⟩ | ⟨c, d⟩ | ⟨c, d⟩
        · omega
        · exact d
        all_goals omega
      · rcases h3 with ⟨c, d⟩ | ⟨c, d⟩ | ⟨c, d⟩ | ⟨c, d⟩
        · omega
        · omega
        · exact d
        · omega
      · rcases h3 with ⟨c, d⟩ | ⟨c, d⟩ | ⟨c, d⟩ | ⟨c, d⟩
        · omega
        · omega
        · omega
        · exact UInt8.toNat_inj.1 (by omega)
    · omega
  rw [e.1, e.2]
  exact ⟨rfl, rfl⟩⟩
theorem ext12 (h2 : 2 ≤ t.size) : t.extract 1 2 = ⟨#[t.data.getD 1 0]⟩ := ba_eq (by
  have h1 : 1 < t.data.toList.length := by rw [tl_len]; omega
  rw [ext_tl, List.drop_eq_getElem_cons h1, List.take_succ_cons, List.take_zero, Array.getD_eq_getD_getElem?, ← Array.getElem?_toList, List.getElem?_eq_getElem h1]
  rfl)
theorem EscR.self (h2 : 2 ≤ t.size) (h : byA t 1 = 34 ∨ byA t 1 = 92) : EscR t (t.extract 1 2) 2 := by
  rw [ext12 h2]
  exact EscR.one h2 (.inr (.inr (.inr ⟨h, rfl⟩)))
theorem DR.at_ {n k most j : Nat} (h : DR (t.extract j t.size) most n k) (hj : j ≤ t.size) : k + j ≤ t.size := by
  have h1 := h.1.2
  rw [ByteArray.size_extract] at h1
  omega
theorem EscR.hex {n : Nat} (h2 : 2 ≤ t.size) (hx : byA t 1 = 120) (h : DR (t.extract 2 t.size) 2 n 2) : EscR t ⟨#[UInt8.ofNat n]⟩ 4 := ⟨by have := h.at_ h2; omega, show (1 : Nat) ≤ 4 by decide, fun _ => show (0 : Nat) < 1 by decide, fun u m hE => by
  rcases hE with ⟨_, _, h3⟩ | ⟨h4, rfl, _, p, q, hp, hq, e0, e1, hu⟩
  · omega
  · have h5 : (t.extract 2 t.size).size = t.size - 2 := by rw [ByteArray.size_extract]; omega
    have h6 := h.2.2 p q hp hq (by omega) rfl (by rw [byA_suf h2]; exact e0) (by rw [byA_suf h2]; exact e1)
    rw [h6.2, ← hu]
    simp⟩
theorem EscR.nohex {n k : Nat} (h2 : 2 ≤ t.size) (hx : byA t 1 = 120) (h : DR (t.extract 2 t.size) 2 n k) (hk : k ≠ 2) : EscR t ⟨#[]⟩ 0 := EscR.no fun u m hE => by
  rcases hE with ⟨_, _, h3⟩ | ⟨h4, _, _, p, q, hp, hq, e0, e1, hu⟩
  · omega
  · have h5 : (t.extract 2 t.size).size = t.size - 2 := by rw [ByteArray.size_extract]; omega
    exact hk (h.2.2 p q hp hq (by omega) rfl (by rw [byA_suf h2]; exact e0) (by rw [byA_suf h2]; exact e1)).1
theorem enc_sz (r : Int) : 0 < (Utf8.encode r).size ∧ (Utf8.encode r).size ≤ 4 := by
  by_cases hv : Utf8.valid r = true
  · rw [enc_size hv]
    split
    · omega
    · split
      · omega
      · split <;> omega
  · have e : (Utf8.encode r).size = 3 := by
      unfold Utf8.encode
      simp only [hv]
      rfl
    omega
theorem EscR.rune {k : Nat} {r : Int} (hu : byA t 1 = 117) (hk : k + 4 ≤ t.size) : EscR t (Utf8.encode r) (k + 4) := ⟨hk, (enc_sz r).2, fun _ => (enc_sz r).1, fun u m hE => by
  rcases hE with ⟨_, _, h3⟩ | ⟨_, _, h3, _⟩
  · omega
  · omega⟩
end

theorem sb_openN {W0 w : World} {L : List Ch} {T e : TypeId} {b : Nat} {l : List UInt8} (H : Holds W0 (SB T e b l :: L) w) : ∃ p A c, (p = Value.pointer none ∨ p = Value.pointer (some ⟨b, 0, none⟩)) ∧ (l = [] → Value.slice A l.length c = .slice none 0 0) ∧ Holds W0 (Blk b T [p, .slice A l.length c] :: Raw e 1 (.slice A l.length c) l.length (byC l) :: L) w := by
  obtain ⟨ho, S1, S2, h1, h2, h3, ⟨p, v, hp, hnil, hl⟩, h5⟩ := H
  have H2 : Holds W0 ([Blk b T [p, v], Raw e 1 v l.length (byC l)] ++ L) w := ⟨ho, HL.app h1 h2 h3 hl h5⟩
  have hr := H2.raw (e := e) (size := 1) (v := v) (n := l.length) (cs := byC l) (.there _ (.here _ _ _))
  obtain ⟨A, c, rfl, hle, _⟩ := own_slice hr
  exact ⟨p, A, c, hp, hnil, H2⟩
theorem sb_closeN {W0 w : World} {L : List Ch} {T e : TypeId} {b : Nat} {l : List UInt8} {v p : Value} (hp : p = Value.pointer none ∨ p = Value.pointer (some ⟨b, 0, none⟩)) (h0 : l = [] → v = .slice none 0 0) (H : Holds W0 (Blk b T [p, v] :: Raw e 1 v l.length (byC l) :: L) w) : Holds W0 (SB T e b l :: L) w :=
  Holds.closed (Ls := [Blk b T [p, v], Raw e 1 v l.length (byC l)]) H fun S h => ⟨p, v, hp, h0, h⟩

set_option maxRecDepth 100000 in
theorem sbl_calls {w0 w : World} {L : List Ch} {b : Nat} {l : List UInt8} (hl : l.length ≤ 1099511627776) (HH : Holds w0 (SB 90 5 b l :: L) w) : Calls Try.prog 80 #[.pointer (some ⟨b, 0, none⟩)] w fun e w' => ∃ v, e = .returned v ∧ v = .int .i64 l.length ∧ Holds w0 (SB 90 5 b l :: L) w' := by
  obtain ⟨p, A, cp, hp, hnil, HH2⟩ := sb_openN HH
  clear HH
  have HH := HH2
  refine calls_of Try.func80 rfl Try.ntmps80 rfl ?_
  have H := HH
  refine wcR ?_
  refine wA ?_
  refine wl_nil ?_
  refine wcR ?_
  refine wM ?_
  refine wV (v_nil rfl) ?_
  refine wV (v_fb (o2 := 1) fa90_1 rfl rfl) ?_
  refine wV (v_load one88 rfl (H.at (by repeat constructor) rfl)) ?_
  refine wV (v_len Try.underlying88 rfl) ?_
  refine wA ?_
  refine wl_nil ?_
  refine wc_ret ?_
  exact ⟨_, res1 rfl rfl, rfl, sb_closeN hp hnil H⟩

theorem wrapU8 (n : Nat) : IntKind.u8.wrap (n : Int) = (((UInt8.ofNat n).toNat : Nat) : Int) := by
  rw [UInt8.toNat_ofNat']
  show (n : Int) % 256 = _
  omega

set_option maxHeartbeats 3200000 in
set_option maxRecDepth 100000 in
theorem escape_calls {t : ByteArray} {w : World} (hs : t.size ≤ 1099511627776) : Calls Try.prog 81 #[.string t] w fun e w' => ∃ v, e = .returned v ∧ ∃ (c : ByteArray) (n : Nat), v = .tuple #[.string c, .int .i64 n] ∧ EscR t c n ∧ Holds w [] w' := by
  refine calls_of Try.func81 rfl Try.ntmps81 rfl ?_
  have H := Holds.start w
  refine wcR ?_
  refine wA ?_
  refine wA ?_
  refine wl_nil ?_
  refine wc_seq ?_
  refine wcR ?_
  refine wM ?_
  refine wV (v_lens Try.underlying9 rfl) ?_
  refine wV (v_lss rfl rfl) ?_
  refine wl_nil ?_
  refine wc_cond rfl (fun c0 => ?_) (fun c0 => ?_)
  ·have c0p := oT c0
   refine wcR ?_
   refine wA ?_
   refine wA ?_
   refine wl_nil ?_
   refine wc_ret ?_
   first
     | exact ⟨_, res2 rfl rfl rfl, _, 0, rfl, EscR.nob (by omega), H.pm (by repeat (first | exact Pm.nil _ | constructor))⟩
     | (have q_ := c1p
        exact ⟨_, res2 rfl rfl rfl, _, 2, rfl, EscR.one (by omega) (.inl ⟨by omega, rfl⟩), H.pm (by repeat (first | exact Pm.nil _ | constructor))⟩)
     | (have q_ := c2p
        exact ⟨_, res2 rfl rfl rfl, _, 2, rfl, EscR.one (by omega) (.inr (.inl ⟨by omega, rfl⟩)), H.pm (by repeat (first | exact Pm.nil _ | constructor))⟩)
     | (have q_ := c3p
        exact ⟨_, res2 rfl rfl rfl, _, 2, rfl, EscR.one (by omega) (.inr (.inr (.inl ⟨by omega, rfl⟩))), H.pm (by repeat (first | exact Pm.nil _ | constructor))⟩)
     | exact ⟨_, res2 rfl rfl rfl, _, 2, rfl, EscR.self (by omega) (by omega), H.pm (by repeat (first | exact Pm.nil _ | constructor))⟩
     | exact ⟨_, res2 rfl rfl rfl, _, 0, rfl, EscR.nohex (by omega) (by omega) hD (by omega), H.pm (by repeat (first | exact Pm.nil _ | constructor))⟩
     | (obtain rfl : k = 2 := by omega
        exact ⟨_, res2 rfl rfl rfl, _, 4, rfl, EscR.hex (by omega) (by omega) hD, H.pm (by repeat (first | exact Pm.nil _ | constructor))⟩)
     | exact ⟨_, res2 rfl rfl rfl, _, k + 4, rfl, EscR.rune (by omega) (by omega), H.pm (by repeat (first | exact Pm.nil _ | constructor))⟩
  have c0p := oF c0
  refine wc_skip ?_
  refine wc_seq ?_
  refine wcR ?_
  refine wM ?_
  refine wV (v_idxA (i := 1) (s := t) Try.underlying9 rfl rfl (by omega)) ?_
  refine wl_nil ?_
  refine wc_block ?_
  refine wcR ?_
  refine wV (v_eql rfl rfl) ?_
  refine wA ?_
  refine wl_nil ?_
  refine wc_cond rfl (fun c1 => ?_) (fun c1 => ?_)
  ·have c1p := oT c1
   refine wcR ?_
   refine wA ?_
   refine wA ?_
   refine wl_nil ?_
   refine wc_ret ?_
   first
     | exact ⟨_, res2 rfl rfl rfl, _, 0, rfl, EscR.nob (by omega), H.pm (by repeat (first | exact Pm.nil _ | constructor))⟩
     | (have q_ := c1p
        exact ⟨_, res2 rfl rfl rfl, _, 2, rfl, EscR.one (by omega) (.inl ⟨by omega, rfl⟩), H.pm (by repeat (first | exact Pm.nil _ | constructor))⟩)
     | (have q_ := c2p
        exact ⟨_, res2 rfl rfl rfl, _, 2, rfl, EscR.one (by omega) (.inr (.inl ⟨by omega, rfl⟩)), H.pm (by repeat (first | exact Pm.nil _ | constructor))⟩)
     | (have q_ := c3p
        exact ⟨_, res2 rfl rfl rfl, _, 2, rfl, EscR.one (by omega) (.inr (.inr (.inl ⟨by omega, rfl⟩))), H.pm (by repeat (first | exact Pm.nil _ | constructor))⟩)
     | exact ⟨_, res2 rfl rfl rfl, _, 2, rfl, EscR.self (by omega) (by omega), H.pm (by repeat (first | exact Pm.nil _ | constructor))⟩
     | exact ⟨_, res2 rfl rfl rfl, _, 0, rfl, EscR.nohex (by omega) (by omega) hD (by omega), H.pm (by repeat (first | exact Pm.nil _ | constructor))⟩
     | (obtain rfl : k = 2 := by omega
        exact ⟨_, res2 rfl rfl rfl, _, 4, rfl, EscR.hex (by omega) (by omega) hD, H.pm (by repeat (first | exact Pm.nil _ | constructor))⟩)
     | exact ⟨_, res2 rfl rfl rfl, _, k + 4, rfl, EscR.rune (by omega) (by omega), H.pm (by repeat (first | exact Pm.nil _ | constructor))⟩
  have c1p := oF c1
  refine wcR ?_
  refine wV (v_eql rfl rfl) ?_
  refine wA ?_
  refine wl_nil ?_
  refine wc_cond rfl (fun c2 => ?_) (fun c2 => ?_)
  ·have c2p := oT c2
   refine wcR ?_
   refine wA ?_
   refine wA ?_
   refine wl_nil ?_
   refine wc_ret ?_
   first
     | exact ⟨_, res2 rfl rfl rfl, _, 0, rfl, EscR.nob (by omega), H.pm (by repeat (first | exact Pm.nil _ | constructor))⟩
     | (have q_ := c1p
        exact ⟨_, res2 rfl rfl rfl, _, 2, rfl, EscR.one (by omega) (.inl ⟨by omega, rfl⟩), H.pm (by repeat (first | exact Pm.nil _ | constructor))⟩)
     | (have q_ := c2p
        exact ⟨_, res2 rfl rfl rfl, _, 2, rfl, EscR.one (by omega) (.inr (.inl ⟨by omega, rfl⟩)), H.pm (by repeat (first | exact Pm.nil _ | constructor))⟩)
     | (have q_ := c3p
        exact ⟨_, res2 rfl rfl rfl, _, 2, rfl, EscR.one (by omega) (.inr (.inr (.inl ⟨by omega, rfl⟩))), H.pm (by repeat (first | exact Pm.nil _ | constructor))⟩)
     | exact ⟨_, res2 rfl rfl rfl, _, 2, rfl, EscR.self (by omega) (by omega), H.pm (by repeat (first | exact Pm.nil _ | constructor))⟩
     | exact ⟨_, res2 rfl rfl rfl, _, 0, rfl, EscR.nohex (by omega) (by omega) hD (by omega), H.pm (by repeat (first | exact Pm.nil _ | constructor))⟩
     | (obtain rfl : k = 2 := by omega
        exact ⟨_, res2 rfl rfl rfl, _, 4, rfl, EscR.hex (by omega) (by omega) hD, H.pm (by repeat (first | exact Pm.nil _ | constructor))⟩)
     | exact ⟨_, res2 rfl rfl rfl, _, k + 4, rfl, EscR.rune (by omega) (by omega), H.pm (by repeat (first | exact Pm.nil _ | constructor))⟩
  have c2p := oF c2
  refine wcR ?_
  refine wV (v_eql rfl rfl) ?_
  refine wA ?_
  refine wl_nil ?_
  refine wc_cond rfl (fun c3 => ?_) (fun c3 => ?_)
  ·have c3p := oT c3
   refine wcR ?_
   refine wA ?_
   refine wA ?_
   refine wl_nil ?_
   refine wc_ret ?_
   first
     | exact ⟨_, res2 rfl rfl rfl, _, 0, rfl, EscR.nob (by omega), H.pm (by repeat (first | exact Pm.nil _ | constructor))⟩
     | (have q_ := c1p
        exact ⟨_, res2 rfl rfl rfl, _, 2, rfl, EscR.one (by omega) (.inl ⟨by omega, rfl⟩), H.pm (by repeat (first | exact Pm.nil _ | constructor))⟩)
     | (have q_ := c2p
        exact ⟨_, res2 rfl rfl rfl, _, 2, rfl, EscR.one (by omega) (.inr (.inl ⟨by omega, rfl⟩)), H.pm (by repeat (first | exact Pm.nil _ | constructor))⟩)
     | (have q_ := c3p
        exact ⟨_, res2 rfl rfl rfl, _, 2, rfl, EscR.one (by omega) (.inr (.inr (.inl ⟨by omega, rfl⟩))), H.pm (by repeat (first | exact Pm.nil _ | constructor))⟩)
     | exact ⟨_, res2 rfl rfl rfl, _, 2, rfl, EscR.self (by omega) (by omega), H.pm (by repeat (first | exact Pm.nil _ | constructor))⟩
     | exact ⟨_, res2 rfl rfl rfl, _, 0, rfl, EscR.nohex (by omega) (by omega) hD (by omega), H.pm (by repeat (first | exact Pm.nil _ | constructor))⟩
     | (obtain rfl : k = 2 := by omega
        exact ⟨_, res2 rfl rfl rfl, _, 4, rfl, EscR.hex (by omega) (by omega) hD, H.pm (by repeat (first | exact Pm.nil _ | constructor))⟩)
     | exact ⟨_, res2 rfl rfl rfl, _, k + 4, rfl, EscR.rune (by omega) (by omega), H.pm (by repeat (first | exact Pm.nil _ | constructor))⟩
  have c3p := oF c3
  refine wc_seq ?_
  refine wcR ?_
  refine wV (v_eql rfl rfl) ?_
  refine wA ?_
  refine wl_nil ?_
  refine wc_cond rfl (fun c4 => ?_) (fun c4 => ?_)
  ·have c4p := oT c4
   refine wc_skip ?_
   refine wc_cond_y rfl c4 ?_
   refine wcR ?_
   refine wM ?_
   refine wV (v_cut Try.underlying9 rfl rfl rfl (by omega) (by omega) (by omega)) ?_
   refine wA ?_
   refine wA ?_
   refine wl_nil ?_
   refine wc_ret ?_
   first
     | exact ⟨_, res2 rfl rfl rfl, _, 0, rfl, EscR.nob (by omega), H.pm (by repeat (first | exact Pm.nil _ | constructor))⟩
     | (have q_ := c1p
        exact ⟨_, res2 rfl rfl rfl, _, 2, rfl, EscR.one (by omega) (.inl ⟨by omega, rfl⟩), H.pm (by repeat (first | exact Pm.nil _ | constructor))⟩)
     | (have q_ := c2p
        exact ⟨_, res2 rfl rfl rfl, _, 2, rfl, EscR.one (by omega) (.inr (.inl ⟨by omega, rfl⟩)), H.pm (by repeat (first | exact Pm.nil _ | constructor))⟩)
     | (have q_ := c3p
        exact ⟨_, res2 rfl rfl rfl, _, 2, rfl, EscR.one (by omega) (.inr (.inr (.inl ⟨by omega, rfl⟩))), H.pm (by repeat (first | exact Pm.nil _ | constructor))⟩)
     | exact ⟨_, res2 rfl rfl rfl, _, 2, rfl, EscR.self (by omega) (by omega), H.pm (by repeat (first | exact Pm.nil _ | constructor))⟩
     | exact ⟨_, res2 rfl rfl rfl, _, 0, rfl, EscR.nohex (by omega) (by omega) hD (by omega), H.pm (by repeat (first | exact Pm.nil _ | constructor))⟩
     | (obtain rfl : k = 2 := by omega
        exact ⟨_, res2 rfl rfl rfl, _, 4, rfl, EscR.hex (by omega) (by omega) hD, H.pm (by repeat (first | exact Pm.nil _ | constructor))⟩)
     | exact ⟨_, res2 rfl rfl rfl, _, k + 4, rfl, EscR.rune (by omega) (by omega), H.pm (by repeat (first | exact Pm.nil _ | constructor))⟩
  have c4p := oF c4
  refine wc_region ?_
  refine wV (v_eql rfl rfl) ?_
  refine wA ?_
  refine wl_nil ?_
  refine wc_cond rfl (fun c5 => ?_) (fun c5 => ?_)
  ·have c5p := oT c5
   refine wcR ?_
   refine wM ?_
   refine wV (v_cut Try.underlying9 rfl rfl rfl (by omega) (by omega) (by omega)) ?_
   refine wA ?_
   refine wA ?_
   refine wl_nil ?_
   refine wc_ret ?_
   first
     | exact ⟨_, res2 rfl rfl rfl, _, 0, rfl, EscR.nob (by omega), H.pm (by repeat (first | exact Pm.nil _ | constructor))⟩
     | (have q_ := c1p
        exact ⟨_, res2 rfl rfl rfl, _, 2, rfl, EscR.one (by omega) (.inl ⟨by omega, rfl⟩), H.pm (by repeat (first | exact Pm.nil _ | constructor))⟩)
     | (have q_ := c2p
        exact ⟨_, res2 rfl rfl rfl, _, 2, rfl, EscR.one (by omega) (.inr (.inl ⟨by omega, rfl⟩)), H.pm (by repeat (first | exact Pm.nil _ | constructor))⟩)
     | (have q_ := c3p
        exact ⟨_, res2 rfl rfl rfl, _, 2, rfl, EscR.one (by omega) (.inr (.inr (.inl ⟨by omega, rfl⟩))), H.pm (by repeat (first | exact Pm.nil _ | constructor))⟩)
     | exact ⟨_, res2 rfl rfl rfl, _, 2, rfl, EscR.self (by omega) (by omega), H.pm (by repeat (first | exact Pm.nil _ | constructor))⟩
     | exact ⟨_, res2 rfl rfl rfl, _, 0, rfl, EscR.nohex (by omega) (by omega) hD (by omega), H.pm (by repeat (first | exact Pm.nil _ | constructor))⟩
     | (obtain rfl : k = 2 := by omega
        exact ⟨_, res2 rfl rfl rfl, _, 4, rfl, EscR.hex (by omega) (by omega) hD, H.pm (by repeat (first | exact Pm.nil _ | constructor))⟩)
     | exact ⟨_, res2 rfl rfl rfl, _, k + 4, rfl, EscR.rune (by omega) (by omega), H.pm (by repeat (first | exact Pm.nil _ | constructor))⟩
  have c5p := oF c5
  refine wcR ?_
  refine wV (v_eql rfl rfl) ?_
  refine wA ?_
  refine wl_nil ?_
  refine wc_cond rfl (fun c6 => ?_) (fun c6 => ?_)
  ·have c6p := oT c6
   refine wcR ?_
   refine wM ?_
   refine wV (v_cut_l Try.underlying9 rfl rfl (by omega) (by omega)) ?_
   refine wl_call en93 rfl rfl (digits_calls (most := 2) (by rw [ByteArray.size_extract]; omega) (by decide)) ?_
   rintro _ w5 ⟨n, k, rfl, hD, Hc⟩
   have H6 := H.call0 Hc
   have hDk := hD.1
   have hDn := hD.2.1
   have hDa := hD.at_ (by omega)
   refine wM ?_
   refine wV (v_extract rfl rfl) ?_
   refine wV (v_extract rfl rfl) ?_
   refine wA ?_
   refine wA ?_
   refine wl_nil ?_
   refine wcR ?_
   refine wM ?_
   refine wV (v_eql rfl rfl) ?_
   refine wl_nil ?_
   refine wc_cond rfl (fun c7 => ?_) (fun c7 => ?_)
   rotate_left
   ·have c7p := oF c7
    refine wc_skip ?_
    refine wcR ?_
    refine wA ?_
    refine wA ?_
    refine wl_nil ?_
    refine wc_ret ?_
    first
      | exact ⟨_, res2 rfl rfl rfl, _, 0, rfl, EscR.nob (by omega), H6.pm (by repeat (first | exact Pm.nil _ | constructor))⟩
      | (have q_ := c1p
         exact ⟨_, res2 rfl rfl rfl, _, 2, rfl, EscR.one (by omega) (.inl ⟨by omega, rfl⟩), H6.pm (by repeat (first | exact Pm.nil _ | constructor))⟩)
      | (have q_ := c2p
         exact ⟨_, res2 rfl rfl rfl, _, 2, rfl, EscR.one (by omega) (.inr (.inl ⟨by omega, rfl⟩)), H6.pm (by repeat (first | exact Pm.nil _ | constructor))⟩)
      | (have q_ := c3p
         exact ⟨_, res2 rfl rfl rfl, _, 2, rfl, EscR.one (by omega) (.inr (.inr (.inl ⟨by omega, rfl⟩))), H6.pm (by repeat (first | exact Pm.nil _ | constructor))⟩)
      | exact ⟨_, res2 rfl rfl rfl, _, 2, rfl, EscR.self (by omega) (by omega), H6.pm (by repeat (first | exact Pm.nil _ | constructor))⟩
      | exact ⟨_, res2 rfl rfl rfl, _, 0, rfl, EscR.nohex (by omega) (by omega) hD (by omega), H6.pm (by repeat (first | exact Pm.nil _ | constructor))⟩
      | (obtain rfl : k = 2 := by omega
         exact ⟨_, res2 rfl rfl rfl, _, 4, rfl, EscR.hex (by omega) (by omega) hD, H6.pm (by repeat (first | exact Pm.nil _ | constructor))⟩)
      | exact ⟨_, res2 rfl rfl rfl, _, k + 4, rfl, EscR.rune (by omega) (by omega), H6.pm (by repeat (first | exact Pm.nil _ | constructor))⟩
   have c7p := oT c7
   refine wcR ?_
   refine wM ?_
   refine wV (v_conv Try.underlying3 Try.underlying5 rfl) ?_
   rw [show IntKind.u8.wrap (n : Int) = (((UInt8.ofNat n).toNat : Nat) : Int) from wrapU8 n]
   refine wl_slit (v := .int .u8 0) (z := [.int .u8 0]) (cs := byC [UInt8.ofNat n]) (sz := 1) H6 rfl Try.underlying88 sz5 zv5 (by decide) (by decide) (by kernel_rfl) rfl (by repeat constructor) ?_
   intro b36 w8 hb36 H8 hs8
   replace H8 := H8.litB (l := [UInt8.ofNat n]) (show 1 ≤ maxLen by decide)
   refine wV (v_convBS (bs := [UInt8.ofNat n]) Try.underlying88 Try.underlying5 Try.underlying9 ((H8.brAt (l := [UInt8.ofNat n]) (by repeat constructor)).1 (by simp)) (H8.brAt (l := [UInt8.ofNat n]) (by repeat constructor)).2 rfl) ?_
   refine wA ?_
   refine wA ?_
   refine wl_nil ?_
   refine wc_ret ?_
   first
     | exact ⟨_, res2 rfl rfl rfl, _, 0, rfl, EscR.nob (by omega), H8.pm (by repeat (first | exact Pm.nil _ | constructor))⟩
     | (have q_ := c1p
        exact ⟨_, res2 rfl rfl rfl, _, 2, rfl, EscR.one (by omega) (.inl ⟨by omega, rfl⟩), H8.pm (by repeat (first | exact Pm.nil _ | constructor))⟩)
     | (have q_ := c2p
        exact ⟨_, res2 rfl rfl rfl, _, 2, rfl, EscR.one (by omega) (.inr (.inl ⟨by omega, rfl⟩)), H8.pm (by repeat (first | exact Pm.nil _ | constructor))⟩)
     | (have q_ := c3p
        exact ⟨_, res2 rfl rfl rfl, _, 2, rfl, EscR.one (by omega) (.inr (.inr (.inl ⟨by omega, rfl⟩))), H8.pm (by repeat (first | exact Pm.nil _ | constructor))⟩)
     | exact ⟨_, res2 rfl rfl rfl, _, 2, rfl, EscR.self (by omega) (by omega), H8.pm (by repeat (first | exact Pm.nil _ | constructor))⟩
     | exact ⟨_, res2 rfl rfl rfl, _, 0, rfl, EscR.nohex (by omega) (by omega) hD (by omega), H8.pm (by repeat (first | exact Pm.nil _ | constructor))⟩
     | (obtain rfl : k = 2 := by omega
        exact ⟨_, res2 rfl rfl rfl, _, 4, rfl, EscR.hex (by omega) (by omega) hD, H8.pm (by repeat (first | exact Pm.nil _ | constructor))⟩)
     | exact ⟨_, res2 rfl rfl rfl, _, k + 4, rfl, EscR.rune (by omega) (by omega), H8.pm (by repeat (first | exact Pm.nil _ | constructor))⟩
  have c6p := oF c6
  refine wcR ?_
  refine wV (v_eql rfl rfl) ?_
  refine wA ?_
  refine wl_nil ?_
  refine wc_cond rfl (fun c8 => ?_) (fun c8 => ?_)
  rotate_left
  ·have c8p := oF c8
   refine wc_skip ?_
   refine wcR ?_
   refine wA ?_
   refine wA ?_
   refine wl_nil ?_
   refine wc_ret ?_
   first
     | exact ⟨_, res2 rfl rfl rfl, _, 0, rfl, EscR.nob (by omega), H.pm (by repeat (first | exact Pm.nil _ | constructor))⟩
     | (have q_ := c1p
        exact ⟨_, res2 rfl rfl rfl, _, 2, rfl, EscR.one (by omega) (.inl ⟨by omega, rfl⟩), H.pm (by repeat (first | exact Pm.nil _ | constructor))⟩)
     | (have q_ := c2p
        exact ⟨_, res2 rfl rfl rfl, _, 2, rfl, EscR.one (by omega) (.inr (.inl ⟨by omega, rfl⟩)), H.pm (by repeat (first | exact Pm.nil _ | constructor))⟩)
     | (have q_ := c3p
        exact ⟨_, res2 rfl rfl rfl, _, 2, rfl, EscR.one (by omega) (.inr (.inr (.inl ⟨by omega, rfl⟩))), H.pm (by repeat (first | exact Pm.nil _ | constructor))⟩)
     | exact ⟨_, res2 rfl rfl rfl, _, 2, rfl, EscR.self (by omega) (by omega), H.pm (by repeat (first | exact Pm.nil _ | constructor))⟩
     | exact ⟨_, res2 rfl rfl rfl, _, 0, rfl, EscR.nohex (by omega) (by omega) hD (by omega), H.pm (by repeat (first | exact Pm.nil _ | constructor))⟩
     | (obtain rfl : k = 2 := by omega
        exact ⟨_, res2 rfl rfl rfl, _, 4, rfl, EscR.hex (by omega) (by omega) hD, H.pm (by repeat (first | exact Pm.nil _ | constructor))⟩)
     | exact ⟨_, res2 rfl rfl rfl, _, k + 4, rfl, EscR.rune (by omega) (by omega), H.pm (by repeat (first | exact Pm.nil _ | constructor))⟩
  have c8p := oT c8
  refine wc_seq ?_
  refine wcR ?_
  refine wM ?_
  refine wV (v_lens Try.underlying9 rfl) ?_
  refine wV (v_lss rfl rfl) ?_
  refine wM ?_
  refine wl_guard rfl rfl rfl (fun g43 => ?_) (fun g43 => ?_)
  rotate_left
  ·have g43p := oT g43
   refine wF g43 ?_
   refine wF g43 ?_
   refine wV (v_pick_t rfl g43 rfl) ?_
   refine wl_nil ?_
   refine wc_cond_t rfl ?_
   refine wcR ?_
   refine wA ?_
   refine wA ?_
   refine wl_nil ?_
   refine wc_ret ?_
   first
     | exact ⟨_, res2 rfl rfl rfl, _, 0, rfl, EscR.nob (by omega), H.pm (by repeat (first | exact Pm.nil _ | constructor))⟩
     | (have q_ := c1p
        exact ⟨_, res2 rfl rfl rfl, _, 2, rfl, EscR.one (by omega) (.inl ⟨by omega, rfl⟩), H.pm (by repeat (first | exact Pm.nil _ | constructor))⟩)
     | (have q_ := c2p
        exact ⟨_, res2 rfl rfl rfl, _, 2, rfl, EscR.one (by omega) (.inr (.inl ⟨by omega, rfl⟩)), H.pm (by repeat (first | exact Pm.nil _ | constructor))⟩)
     | (have q_ := c3p
        exact ⟨_, res2 rfl rfl rfl, _, 2, rfl, EscR.one (by omega) (.inr (.inr (.inl ⟨by omega, rfl⟩))), H.pm (by repeat (first | exact Pm.nil _ | constructor))⟩)
     | exact ⟨_, res2 rfl rfl rfl, _, 2, rfl, EscR.self (by omega) (by omega), H.pm (by repeat (first | exact Pm.nil _ | constructor))⟩
     | exact ⟨_, res2 rfl rfl rfl, _, 0, rfl, EscR.nohex (by omega) (by omega) hD (by omega), H.pm (by repeat (first | exact Pm.nil _ | constructor))⟩
     | (obtain rfl : k = 2 := by omega
        exact ⟨_, res2 rfl rfl rfl, _, 4, rfl, EscR.hex (by omega) (by omega) hD, H.pm (by repeat (first | exact Pm.nil _ | constructor))⟩)
     | exact ⟨_, res2 rfl rfl rfl, _, k + 4, rfl, EscR.rune (by omega) (by omega), H.pm (by repeat (first | exact Pm.nil _ | constructor))⟩
  have g43p := oF g43
  refine wM ?_
  refine wO g43 ?_
  refine wV (v_idxA (i := 2) (s := t) Try.underlying9 rfl rfl (by omega)) ?_
  refine wO g43 ?_
  refine wV (v_neq rfl rfl) ?_
  refine wV (v_pick_f rfl g43 rfl) ?_
  refine wl_nil ?_
  refine wc_cond rfl (fun c9 => ?_) (fun c9 => ?_)
  ·have c9p := of_nd_t c9
   refine wcR ?_
   refine wA ?_
   refine wA ?_
   refine wl_nil ?_
   refine wc_ret ?_
   first
     | exact ⟨_, res2 rfl rfl rfl, _, 0, rfl, EscR.nob (by omega), H.pm (by repeat (first | exact Pm.nil _ | constructor))⟩
     | (have q_ := c1p
        exact ⟨_, res2 rfl rfl rfl, _, 2, rfl, EscR.one (by omega) (.inl ⟨by omega, rfl⟩), H.pm (by repeat (first | exact Pm.nil _ | constructor))⟩)
     | (have q_ := c2p
        exact ⟨_, res2 rfl rfl rfl, _, 2, rfl, EscR.one (by omega) (.inr (.inl ⟨by omega, rfl⟩)), H.pm (by repeat (first | exact Pm.nil _ | constructor))⟩)
     | (have q_ := c3p
        exact ⟨_, res2 rfl rfl rfl, _, 2, rfl, EscR.one (by omega) (.inr (.inr (.inl ⟨by omega, rfl⟩))), H.pm (by repeat (first | exact Pm.nil _ | constructor))⟩)
     | exact ⟨_, res2 rfl rfl rfl, _, 2, rfl, EscR.self (by omega) (by omega), H.pm (by repeat (first | exact Pm.nil _ | constructor))⟩
     | exact ⟨_, res2 rfl rfl rfl, _, 0, rfl, EscR.nohex (by omega) (by omega) hD (by omega), H.pm (by repeat (first | exact Pm.nil _ | constructor))⟩
     | (obtain rfl : k = 2 := by omega
        exact ⟨_, res2 rfl rfl rfl, _, 4, rfl, EscR.hex (by omega) (by omega) hD, H.pm (by repeat (first | exact Pm.nil _ | constructor))⟩)
     | exact ⟨_, res2 rfl rfl rfl, _, k + 4, rfl, EscR.rune (by omega) (by omega), H.pm (by repeat (first | exact Pm.nil _ | constructor))⟩
  have c9p := of_nd_f c9
  refine wc_skip ?_
  refine wcR ?_
  refine wM ?_
  refine wV (v_cut_l Try.underlying9 rfl rfl (by omega) (by omega)) ?_
  refine wl_call en93 rfl rfl (digits_calls (most := 6) (by rw [ByteArray.size_extract]; omega) (by decide)) ?_
  rintro _ w12 ⟨n, k, rfl, hD, Hc⟩
  have H13 := H.call0 Hc
  have hDk := hD.1
  have hDn := hD.2.1
  have hDa := hD.at_ (by omega)
  refine wM ?_
  refine wV (v_extract rfl rfl) ?_
  refine wV (v_extract rfl rfl) ?_
  refine wA ?_
  refine wA ?_
  refine wl_nil ?_
  refine wc_seq ?_
  refine wcR ?_
  refine wM ?_
  refine wV (v_eql rfl rfl) ?_
  refine wM ?_
  refine wl_guard rfl rfl rfl (fun g56 => ?_) (fun g56 => ?_)
  rotate_left
  ·have g56p := oT g56
   refine wF g56 ?_
   refine wF g56 ?_
   refine wF g56 ?_
   refine wF g56 ?_
   refine wV (v_pick_t rfl g56 rfl) ?_
   refine wM ?_
   refine wF rfl ?_
   refine wF rfl ?_
   refine wF rfl ?_
   refine wF rfl ?_
   refine wF rfl ?_
   refine wV (v_pick_t rfl rfl rfl) ?_
   refine wM ?_
   refine wF rfl ?_
   refine wF rfl ?_
   refine wF rfl ?_
   refine wF rfl ?_
   refine wl_offu rfl rfl rfl ?_
   refine wl_offu rfl rfl rfl ?_
   refine wF rfl ?_
   refine wV (v_pick_t rfl rfl rfl) ?_
   refine wM ?_
   refine wF rfl ?_
   refine wF rfl ?_
   refine wF rfl ?_
   refine wF rfl ?_
   refine wV (v_pick_t rfl rfl rfl) ?_
   refine wl_nil ?_
   refine wc_cond_t rfl ?_
   refine wcR ?_
   refine wA ?_
   refine wA ?_
   refine wl_nil ?_
   refine wc_ret ?_
   first
     | exact ⟨_, res2 rfl rfl rfl, _, 0, rfl, EscR.nob (by omega), H13.pm (by repeat (first | exact Pm.nil _ | constructor))⟩
     | (have q_ := c1p
        exact ⟨_, res2 rfl rfl rfl, _, 2, rfl, EscR.one (by omega) (.inl ⟨by omega, rfl⟩), H13.pm (by repeat (first | exact Pm.nil _ | constructor))⟩)
     | (have q_ := c2p
        exact ⟨_, res2 rfl rfl rfl, _, 2, rfl, EscR.one (by omega) (.inr (.inl ⟨by omega, rfl⟩)), H13.pm (by repeat (first | exact Pm.nil _ | constructor))⟩)
     | (have q_ := c3p
        exact ⟨_, res2 rfl rfl rfl, _, 2, rfl, EscR.one (by omega) (.inr (.inr (.inl ⟨by omega, rfl⟩))), H13.pm (by repeat (first | exact Pm.nil _ | constructor))⟩)
     | exact ⟨_, res2 rfl rfl rfl, _, 2, rfl, EscR.self (by omega) (by omega), H13.pm (by repeat (first | exact Pm.nil _ | constructor))⟩
     | exact ⟨_, res2 rfl rfl rfl, _, 0, rfl, EscR.nohex (by omega) (by omega) hD (by omega), H13.pm (by repeat (first | exact Pm.nil _ | constructor))⟩
     | (obtain rfl : k = 2 := by omega
        exact ⟨_, res2 rfl rfl rfl, _, 4, rfl, EscR.hex (by omega) (by omega) hD, H13.pm (by repeat (first | exact Pm.nil _ | constructor))⟩)
     | exact ⟨_, res2 rfl rfl rfl, _, k + 4, rfl, EscR.rune (by omega) (by omega), H13.pm (by repeat (first | exact Pm.nil _ | constructor))⟩
  have g56p := oF g56
  refine wM ?_
  refine wO g56 ?_
  refine wV (v_lens Try.underlying9 rfl) ?_
  refine wO g56 ?_
  refine wM ?_
  refine wO g56 ?_
  refine wV (v_addi rfl rfl (by omega)) ?_
  refine wO g56 ?_
  refine wV (v_leq rfl rfl) ?_
  refine wV (v_pick_f rfl g56 rfl) ?_
  refine wM ?_
  refine wl_guard rfl rfl rfl (fun g63 => ?_) (fun g63 => ?_)
  rotate_left
  ·have g63p := oT g63
   refine wF g63 ?_
   refine wF g63 ?_
   refine wF g63 ?_
   refine wF g63 ?_
   refine wV (v_pick_t rfl g63 rfl) ?_
   refine wM ?_
   refine wF rfl ?_
   refine wF rfl ?_
   refine wF rfl ?_
   refine wF rfl ?_
   refine wl_offu rfl rfl rfl ?_
   refine wl_offu rfl rfl rfl ?_
   refine wF rfl ?_
   refine wV (v_pick_t rfl rfl rfl) ?_
   refine wM ?_
   refine wF rfl ?_
   refine wF rfl ?_
   refine wF rfl ?_
   refine wF rfl ?_
   refine wV (v_pick_t rfl rfl rfl) ?_
   refine wl_nil ?_
   refine wc_cond_t rfl ?_
   refine wcR ?_
   refine wA ?_
   refine wA ?_
   refine wl_nil ?_
   refine wc_ret ?_
   first
     | exact ⟨_, res2 rfl rfl rfl, _, 0, rfl, EscR.nob (by omega), H13.pm (by repeat (first | exact Pm.nil _ | constructor))⟩
     | (have q_ := c1p
        exact ⟨_, res2 rfl rfl rfl, _, 2, rfl, EscR.one (by omega) (.inl ⟨by omega, rfl⟩), H13.pm (by repeat (first | exact Pm.nil _ | constructor))⟩)
     | (have q_ := c2p
        exact ⟨_, res2 rfl rfl rfl, _, 2, rfl, EscR.one (by omega) (.inr (.inl ⟨by omega, rfl⟩)), H13.pm (by repeat (first | exact Pm.nil _ | constructor))⟩)
     | (have q_ := c3p
        exact ⟨_, res2 rfl rfl rfl, _, 2, rfl, EscR.one (by omega) (.inr (.inr (.inl ⟨by omega, rfl⟩))), H13.pm (by repeat (first | exact Pm.nil _ | constructor))⟩)
     | exact ⟨_, res2 rfl rfl rfl, _, 2, rfl, EscR.self (by omega) (by omega), H13.pm (by repeat (first | exact Pm.nil _ | constructor))⟩
     | exact ⟨_, res2 rfl rfl rfl, _, 0, rfl, EscR.nohex (by omega) (by omega) hD (by omega), H13.pm (by repeat (first | exact Pm.nil _ | constructor))⟩
     | (obtain rfl : k = 2 := by omega
        exact ⟨_, res2 rfl rfl rfl, _, 4, rfl, EscR.hex (by omega) (by omega) hD, H13.pm (by repeat (first | exact Pm.nil _ | constructor))⟩)
     | exact ⟨_, res2 rfl rfl rfl, _, k + 4, rfl, EscR.rune (by omega) (by omega), H13.pm (by repeat (first | exact Pm.nil _ | constructor))⟩
  have g63p := oF g63
  refine wM ?_
  refine wO g63 ?_
  refine wM ?_
  refine wO g63 ?_
  refine wV (v_addi rfl rfl (by omega)) ?_
  refine wO g63 ?_
  refine wV (v_idxA (i := (3 + k)) (s := t) Try.underlying9 rfl rfl (by omega)) ?_
  refine wO g63 ?_
  refine wV (v_neq rfl rfl) ?_
  refine wV (v_pick_f rfl g63 rfl) ?_
  refine wM ?_
  refine wl_guard rfl rfl rfl (fun g70 => ?_) (fun g70 => ?_)
  rotate_left
  ·have g70p := of_nd_t g70
   refine wF g70 ?_
   refine wF g70 ?_
   refine wF g70 ?_
   refine wl_offu rfl rfl rfl ?_
   refine wl_offu rfl rfl rfl ?_
   refine wF g70 ?_
   refine wV (v_pick_t rfl g70 rfl) ?_
   refine wM ?_
   refine wF rfl ?_
   refine wF rfl ?_
   refine wF rfl ?_
   refine wF rfl ?_
   refine wV (v_pick_t rfl rfl rfl) ?_
   refine wl_nil ?_
   refine wc_cond_t rfl ?_
   refine wcR ?_
   refine wA ?_
   refine wA ?_
   refine wl_nil ?_
   refine wc_ret ?_
   first
     | exact ⟨_, res2 rfl rfl rfl, _, 0, rfl, EscR.nob (by omega), H13.pm (by repeat (first | exact Pm.nil _ | constructor))⟩
     | (have q_ := c1p
        exact ⟨_, res2 rfl rfl rfl, _, 2, rfl, EscR.one (by omega) (.inl ⟨by omega, rfl⟩), H13.pm (by repeat (first | exact Pm.nil _ | constructor))⟩)
     | (have q_ := c2p
        exact ⟨_, res2 rfl rfl rfl, _, 2, rfl, EscR.one (by omega) (.inr (.inl ⟨by omega, rfl⟩)), H13.pm (by repeat (first | exact Pm.nil _ | constructor))⟩)
     | (have q_ := c3p
        exact ⟨_, res2 rfl rfl rfl, _, 2, rfl, EscR.one (by omega) (.inr (.inr (.inl ⟨by omega, rfl⟩))), H13.pm (by repeat (first | exact Pm.nil _ | constructor))⟩)
     | exact ⟨_, res2 rfl rfl rfl, _, 2, rfl, EscR.self (by omega) (by omega), H13.pm (by repeat (first | exact Pm.nil _ | constructor))⟩
     | exact ⟨_, res2 rfl rfl rfl, _, 0, rfl, EscR.nohex (by omega) (by omega) hD (by omega), H13.pm (by repeat (first | exact Pm.nil _ | constructor))⟩
     | (obtain rfl : k = 2 := by omega
        exact ⟨_, res2 rfl rfl rfl, _, 4, rfl, EscR.hex (by omega) (by omega) hD, H13.pm (by repeat (first | exact Pm.nil _ | constructor))⟩)
     | exact ⟨_, res2 rfl rfl rfl, _, k + 4, rfl, EscR.rune (by omega) (by omega), H13.pm (by repeat (first | exact Pm.nil _ | constructor))⟩
  have g70p := of_nd_f g70
  refine wM ?_
  refine wO g70 ?_
  refine wV (v_idxA (i := 3) (s := t) Try.underlying9 rfl rfl (by omega)) ?_
  refine wO g70 ?_
  refine wV (v_eql rfl rfl) ?_
  refine wO g70 ?_
  refine wM ?_
  refine wl_guard rfl rfl rfl (fun g74 => ?_) (fun g74 => ?_)
  rotate_left
  ·have g74p := oF g74
   refine wF g74 ?_
   refine wO g70 ?_
   refine wV (v_pick_f rfl g74 rfl) ?_
   refine wV (v_pick_f rfl g70 rfl) ?_
   refine wM ?_
   refine wO rfl ?_
   refine wM ?_
   refine wO rfl ?_
   refine wV (v_conv Try.underlying3 Try.underlying21 rfl) ?_
   refine wO rfl ?_
   refine wl_call en94 rfl rfl (isRune_calls) ?_
   rintro _ w19 ⟨br, rfl, Hc⟩
   have H20 := H13.call0 Hc
   refine wO rfl ?_
   refine wV (v_not rfl) ?_
   refine wV (v_pick_f rfl rfl rfl) ?_
   refine wl_nil ?_
   refine wc_cond rfl (fun c10 => ?_) (fun c10 => ?_)
   ·have c10p := of_n_t c10
    refine wcR ?_
    refine wA ?_
    refine wA ?_
    refine wl_nil ?_
    refine wc_ret ?_
    first
      | exact ⟨_, res2 rfl rfl rfl, _, 0, rfl, EscR.nob (by omega), H20.pm (by repeat (first | exact Pm.nil _ | constructor))⟩
      | (have q_ := c1p
         exact ⟨_, res2 rfl rfl rfl, _, 2, rfl, EscR.one (by omega) (.inl ⟨by omega, rfl⟩), H20.pm (by repeat (first | exact Pm.nil _ | constructor))⟩)
      | (have q_ := c2p
         exact ⟨_, res2 rfl rfl rfl, _, 2, rfl, EscR.one (by omega) (.inr (.inl ⟨by omega, rfl⟩)), H20.pm (by repeat (first | exact Pm.nil _ | constructor))⟩)
      | (have q_ := c3p
         exact ⟨_, res2 rfl rfl rfl, _, 2, rfl, EscR.one (by omega) (.inr (.inr (.inl ⟨by omega, rfl⟩))), H20.pm (by repeat (first | exact Pm.nil _ | constructor))⟩)
      | exact ⟨_, res2 rfl rfl rfl, _, 2, rfl, EscR.self (by omega) (by omega), H20.pm (by repeat (first | exact Pm.nil _ | constructor))⟩
      | exact ⟨_, res2 rfl rfl rfl, _, 0, rfl, EscR.nohex (by omega) (by omega) hD (by omega), H20.pm (by repeat (first | exact Pm.nil _ | constructor))⟩
      | (obtain rfl : k = 2 := by omega
         exact ⟨_, res2 rfl rfl rfl, _, 4, rfl, EscR.hex (by omega) (by omega) hD, H20.pm (by repeat (first | exact Pm.nil _ | constructor))⟩)
      | exact ⟨_, res2 rfl rfl rfl, _, k + 4, rfl, EscR.rune (by omega) (by omega), H20.pm (by repeat (first | exact Pm.nil _ | constructor))⟩
   have c10p := of_n_f c10
   refine wc_skip ?_
   refine wcR ?_
   refine wM ?_
   refine wV (v_conv Try.underlying3 Try.underlying21 rfl) ?_
   refine wV (v_convS (by kernel_rfl) Try.underlying9 rfl) ?_
   refine wM ?_
   refine wV (v_addi rfl rfl (by omega)) ?_
   refine wA ?_
   refine wA ?_
   refine wl_nil ?_
   refine wc_ret ?_
   first
     | exact ⟨_, res2 rfl rfl rfl, _, 0, rfl, EscR.nob (by omega), H20.pm (by repeat (first | exact Pm.nil _ | constructor))⟩
     | (have q_ := c1p
        exact ⟨_, res2 rfl rfl rfl, _, 2, rfl, EscR.one (by omega) (.inl ⟨by omega, rfl⟩), H20.pm (by repeat (first | exact Pm.nil _ | constructor))⟩)
     | (have q_ := c2p
        exact ⟨_, res2 rfl rfl rfl, _, 2, rfl, EscR.one (by omega) (.inr (.inl ⟨by omega, rfl⟩)), H20.pm (by repeat (first | exact Pm.nil _ | constructor))⟩)
     | (have q_ := c3p
        exact ⟨_, res2 rfl rfl rfl, _, 2, rfl, EscR.one (by omega) (.inr (.inr (.inl ⟨by omega, rfl⟩))), H20.pm (by repeat (first | exact Pm.nil _ | constructor))⟩)
     | exact ⟨_, res2 rfl rfl rfl, _, 2, rfl, EscR.self (by omega) (by omega), H20.pm (by repeat (first | exact Pm.nil _ | constructor))⟩
     | exact ⟨_, res2 rfl rfl rfl, _, 0, rfl, EscR.nohex (by omega) (by omega) hD (by omega), H20.pm (by repeat (first | exact Pm.nil _ | constructor))⟩
     | (obtain rfl : k = 2 := by omega
        exact ⟨_, res2 rfl rfl rfl, _, 4, rfl, EscR.hex (by omega) (by omega) hD, H20.pm (by repeat (first | exact Pm.nil _ | constructor))⟩)
     | exact ⟨_, res2 rfl rfl rfl, _, k + 4, rfl, EscR.rune (by omega) (by omega), H20.pm (by repeat (first | exact Pm.nil _ | constructor))⟩
  have g74p := oT g74
  refine wM ?_
  refine wO g74 ?_
  refine wV (v_gtr rfl rfl) ?_
  refine wO g70 ?_
  refine wV (v_pick_t rfl g74 rfl) ?_
  refine wV (v_pick_f rfl g70 rfl) ?_
  refine wM ?_
  refine wl_guard rfl rfl rfl (fun g79 => ?_) (fun g79 => ?_)
  rotate_left
  ·have g79p := oT g79
   refine wF g79 ?_
   refine wF g79 ?_
   refine wF g79 ?_
   refine wV (v_pick_t rfl g79 rfl) ?_
   refine wl_nil ?_
   refine wc_cond_t rfl ?_
   refine wcR ?_
   refine wA ?_
   refine wA ?_
   refine wl_nil ?_
   refine wc_ret ?_
   first
     | exact ⟨_, res2 rfl rfl rfl, _, 0, rfl, EscR.nob (by omega), H13.pm (by repeat (first | exact Pm.nil _ | constructor))⟩
     | (have q_ := c1p
        exact ⟨_, res2 rfl rfl rfl, _, 2, rfl, EscR.one (by omega) (.inl ⟨by omega, rfl⟩), H13.pm (by repeat (first | exact Pm.nil _ | constructor))⟩)
     | (have q_ := c2p
        exact ⟨_, res2 rfl rfl rfl, _, 2, rfl, EscR.one (by omega) (.inr (.inl ⟨by omega, rfl⟩)), H13.pm (by repeat (first | exact Pm.nil _ | constructor))⟩)
     | (have q_ := c3p
        exact ⟨_, res2 rfl rfl rfl, _, 2, rfl, EscR.one (by omega) (.inr (.inr (.inl ⟨by omega, rfl⟩))), H13.pm (by repeat (first | exact Pm.nil _ | constructor))⟩)
     | exact ⟨_, res2 rfl rfl rfl, _, 2, rfl, EscR.self (by omega) (by omega), H13.pm (by repeat (first | exact Pm.nil _ | constructor))⟩
     | exact ⟨_, res2 rfl rfl rfl, _, 0, rfl, EscR.nohex (by omega) (by omega) hD (by omega), H13.pm (by repeat (first | exact Pm.nil _ | constructor))⟩
     | (obtain rfl : k = 2 := by omega
        exact ⟨_, res2 rfl rfl rfl, _, 4, rfl, EscR.hex (by omega) (by omega) hD, H13.pm (by repeat (first | exact Pm.nil _ | constructor))⟩)
     | exact ⟨_, res2 rfl rfl rfl, _, k + 4, rfl, EscR.rune (by omega) (by omega), H13.pm (by repeat (first | exact Pm.nil _ | constructor))⟩
  have g79p := oF g79
  refine wM ?_
  refine wO g79 ?_
  refine wV (v_conv Try.underlying3 Try.underlying21 rfl) ?_
  refine wO g79 ?_
  refine wl_call en94 rfl rfl (isRune_calls) ?_
  rintro _ w16 ⟨br, rfl, Hc⟩
  have H17 := H13.call0 Hc
  refine wO g79 ?_
  refine wV (v_not rfl) ?_
  refine wV (v_pick_f rfl g79 rfl) ?_
  refine wl_nil ?_
  refine wc_cond rfl (fun c10 => ?_) (fun c10 => ?_)
  ·have c10p := of_n_t c10
   refine wcR ?_
   refine wA ?_
   refine wA ?_
   refine wl_nil ?_
   refine wc_ret ?_
   first
     | exact ⟨_, res2 rfl rfl rfl, _, 0, rfl, EscR.nob (by omega), H17.pm (by repeat (first | exact Pm.nil _ | constructor))⟩
     | (have q_ := c1p
        exact ⟨_, res2 rfl rfl rfl, _, 2, rfl, EscR.one (by omega) (.inl ⟨by omega, rfl⟩), H17.pm (by repeat (first | exact Pm.nil _ | constructor))⟩)
     | (have q_ := c2p
        exact ⟨_, res2 rfl rfl rfl, _, 2, rfl, EscR.one (by omega) (.inr (.inl ⟨by omega, rfl⟩)), H17.pm (by repeat (first | exact Pm.nil _ | constructor))⟩)
     | (have q_ := c3p
        exact ⟨_, res2 rfl rfl rfl, _, 2, rfl, EscR.one (by omega) (.inr (.inr (.inl ⟨by omega, rfl⟩))), H17.pm (by repeat (first | exact Pm.nil _ | constructor))⟩)
     | exact ⟨_, res2 rfl rfl rfl, _, 2, rfl, EscR.self (by omega) (by omega), H17.pm (by repeat (first | exact Pm.nil _ | constructor))⟩
     | exact ⟨_, res2 rfl rfl rfl, _, 0, rfl, EscR.nohex (by omega) (by omega) hD (by omega), H17.pm (by repeat (first | exact Pm.nil _ | constructor))⟩
     | (obtain rfl : k = 2 := by omega
        exact ⟨_, res2 rfl rfl rfl, _, 4, rfl, EscR.hex (by omega) (by omega) hD, H17.pm (by repeat (first | exact Pm.nil _ | constructor))⟩)
     | exact ⟨_, res2 rfl rfl rfl, _, k + 4, rfl, EscR.rune (by omega) (by omega), H17.pm (by repeat (first | exact Pm.nil _ | constructor))⟩
  have c10p := of_n_f c10
  refine wc_skip ?_
  refine wcR ?_
  refine wM ?_
  refine wV (v_conv Try.underlying3 Try.underlying21 rfl) ?_
  refine wV (v_convS (by kernel_rfl) Try.underlying9 rfl) ?_
  refine wM ?_
  refine wV (v_addi rfl rfl (by omega)) ?_
  refine wA ?_
  refine wA ?_
  refine wl_nil ?_
  refine wc_ret ?_
  first
    | exact ⟨_, res2 rfl rfl rfl, _, 0, rfl, EscR.nob (by omega), H17.pm (by repeat (first | exact Pm.nil _ | constructor))⟩
    | (have q_ := c1p
       exact ⟨_, res2 rfl rfl rfl, _, 2, rfl, EscR.one (by omega) (.inl ⟨by omega, rfl⟩), H17.pm (by repeat (first | exact Pm.nil _ | constructor))⟩)
    | (have q_ := c2p
       exact ⟨_, res2 rfl rfl rfl, _, 2, rfl, EscR.one (by omega) (.inr (.inl ⟨by omega, rfl⟩)), H17.pm (by repeat (first | exact Pm.nil _ | constructor))⟩)
    | (have q_ := c3p
       exact ⟨_, res2 rfl rfl rfl, _, 2, rfl, EscR.one (by omega) (.inr (.inr (.inl ⟨by omega, rfl⟩))), H17.pm (by repeat (first | exact Pm.nil _ | constructor))⟩)
    | exact ⟨_, res2 rfl rfl rfl, _, 2, rfl, EscR.self (by omega) (by omega), H17.pm (by repeat (first | exact Pm.nil _ | constructor))⟩
    | exact ⟨_, res2 rfl rfl rfl, _, 0, rfl, EscR.nohex (by omega) (by omega) hD (by omega), H17.pm (by repeat (first | exact Pm.nil _ | constructor))⟩
    | (obtain rfl : k = 2 := by omega
       exact ⟨_, res2 rfl rfl rfl, _, 4, rfl, EscR.hex (by omega) (by omega) hD, H17.pm (by repeat (first | exact Pm.nil _ | constructor))⟩)
    | exact ⟨_, res2 rfl rfl rfl, _, k + 4, rfl, EscR.rune (by omega) (by omega), H17.pm (by repeat (first | exact Pm.nil _ | constructor))⟩
end Go.Proofs.Ytgdemplcpcacaaa.EscW

/-! Texts within quotes, read: the program's. -/
namespace Go.Proofs.Ytgdemplcpcacaaa.QuotedW
open Go Go.RowKit Go.Proofs.YtgdemplcpcacaaaFx Go.Proofs.Ytgdemplcpcacaaa.BldW Go.Proofs.Ytgdemplcpcacaaa.QuoteW Go.Proofs.Ytgdemplcpcacaaa.EscW
theorem agg34 : Agg Try.prog 34 2 := agg_of Try.underlying34 (by kernel_rfl)
theorem ba34 : BuildAt Try.prog 34 [.int .i64 0, .int .i64 0] [(0, 1), (1, 1)] := build_at Try.underlying34 (by kernel_rfl) (by kernel_rfl)
theorem en32 : Enters Try.prog 32 := enters Try.func32 (by kernel_rfl) rfl
theorem en57 : Enters Try.prog 57 := enters Try.func57 (by kernel_rfl) rfl
theorem en79 : Enters Try.prog 79 := enters Try.func79 (by kernel_rfl) rfl
theorem en80 : Enters Try.prog 80 := enters Try.func80 (by kernel_rfl) rfl
theorem en81 : Enters Try.prog 81 := enters Try.func81 (by kernel_rfl) rfl
theorem mixed : Try.prog.follows .mixedOrders = true := by kernel_rfl
theorem sz34 : ∀ W, (sizeOf 34).run Try.prog W = .ok 2 W := size_of (by kernel_rfl)
theorem zv34 : ∀ W, (zeroValue 34).run Try.prog W = .ok (.agg #[.int .i64 0, .int .i64 0]) W := zero_of (by kernel_rfl)
theorem zv90 : ∀ W, (zeroValue 90).run Try.prog W = .ok (.agg #[.pointer none, .slice none 0 0]) W := zero_of (by kernel_rfl)

theorem resC3 {P : Program} {n : Nat} {l : Fr} {w : World} {v : Value} {fn : Func} {a t b : Tmp} {ty : TypeId} {p : Addr} {v1 v3 : Value} (hr : fn.results = #[.tmp a, .tmp b, .cell t ty]) (h1 : lk l a = some v1) (h2 : lk l b = some v3) (h : lk l t = some (.pointer (some p))) (hv : (loadVar ty p).run P w = .ok v w) : Res P n l w fn (.tuple #[v1, v3, v]) := fun A ha => by
  have g1 := ha.at_ _ _ h1
  have g2 := ha.at_ _ _ h
  have g3 := ha.at_ _ _ h2
  simp [results, hr, Array.getD_eq_getD_getElem?, g1, g2, g3, asAddr, hv]

set_option maxHeartbeats 6400000 in
set_option maxRecDepth 100000 in
theorem quoted_calls {s : ByteArray} {a : Nat} {w : World} (hs : s.size ≤ 274877906944) (ha : a < s.size) (h34 : byA s a = 34) : Calls Try.prog 59 #[.string s, .int .i64 a] w fun e w' => ∃ v, e = .returned v ∧ ∃ (q : ByteArray) (z : Nat) (f1 f2 : Int), v = .tuple #[.string q, .int .i64 z, .agg #[.int .i64 f1, .int .i64 f2]] ∧ ((f1 = 0 ∧ f2 = 0 ∧ q.size ≤ 4096 ∧ a < z ∧ z ≤ s.size ∧ Qd s a q z) ∨ (f1 = 12 ∧ q = ⟨#[]⟩ ∧ z = 0 ∧ Qn s a)) ∧ Holds w [] w' := by
  refine calls_of Try.func59 rfl Try.ntmps59 rfl ?_
  have H := Holds.start w
  refine wcR ?_
  refine wA ?_
  refine wA ?_
  refine wl_alloc (cs := [.int .i64 0, .int .i64 0]) H rfl zv34 rfl ?_
  intro b6 w1 hb6 H2
  refine wl_nil ?_
  refine wc_seq ?_
  refine wcR ?_
  refine wM ?_
  refine wV (v_lss rfl rfl) ?_
  refine wM ?_
  refine wl_guard rfl rfl rfl (fun g17 => ?_) (fun g17 => ?_)
  rotate_left
  ·have g17p := oT g17
   exact absurd g17p (by omega)
  have g17p := oF g17
  refine wM ?_
  refine wO g17 ?_
  refine wM ?_
  refine wO g17 ?_
  refine wV (v_lens Try.underlying9 rfl) ?_
  refine wO g17 ?_
  refine wV (v_geq rfl rfl) ?_
  refine wV (v_pick_f rfl g17 rfl) ?_
  refine wl_nil ?_
  refine wc_cond rfl (fun c0 => ?_) (fun c0 => ?_)
  ·have c0p := oT c0
   exact absurd c0p (by omega)
  have c0p := oF c0
  refine wc_skip ?_
  refine wcR ?_
  refine wM ?_
  refine wV (v_bld ba34 rfl (by repeat constructor)) ?_
  refine wl_alloc (cs := [.int .i64 0, .int .i64 0]) H2 rfl zv34 rfl ?_
  intro b7 w3 hb7 H4
  refine wl_store (vs := [_, _]) H4 (by repeat constructor) sz34 rfl rfl rfl rfl rfl (by (repeat constructor)) ?_
  intro w5 H6 hw5
  refine wl_nil ?_
  refine wc_seq ?_
  refine wcR ?_
  refine wM ?_
  refine wM ?_
  refine wV (v_idxA (i := a) (s := s) Try.underlying9 rfl rfl (by omega)) ?_
  refine wV (v_neq rfl rfl) ?_
  refine wl_nil ?_
  refine wc_cond rfl (fun c1 => ?_) (fun c1 => ?_)
  ·have c1p := of_nd_t c1
   exact absurd h34 (by omega)
  have c1p := of_nd_f c1
  refine wc_skip ?_
  refine wcR ?_
  refine wl_alloc (cs := [.pointer none, .slice none 0 0]) H6 rfl zv90 rfl ?_
  intro b8 w8 hb8 H8
  replace H8 := H8.sbNew (e := 5)
  refine wl_nil ?_
  refine wc_seq ?_
  refine wcR ?_
  refine wM ?_
  refine wV (v_addi rfl rfl (by omega)) ?_
  refine wA ?_
  refine wl_nil ?_
  refine wc_block ?_
  refine wc_loop (σ := Nat × List UInt8) (fun q => [(0, .string s), (1, .int .i64 a), (6, .pointer (some ⟨b6, 0, none⟩)), (7, .pointer (some ⟨b7, 0, none⟩)), (8, .pointer (some ⟨b8, 0, none⟩)), (9, .int .i64 q.1)]) (fun q W => ((a + 1 ≤ q.1 ∧ q.1 ≤ s.size) ∧ q.2.length ≤ 4 * q.1 ∧ QI s a q.1 q.2) ∧ Holds w [SB 90 5 b8 q.2, Blk b7 34 [.int .i64 12, .int .i64 a], Blk b6 34 [.int .i64 0, .int .i64 0]] W) (fun q => s.size - q.1) (a + 1, []) (sc rfl (sc rfl (sc rfl (sc rfl (sc rfl (sc rfl (sn _))))))) ⟨⟨⟨Nat.le_refl _, by omega⟩, Nat.zero_le _, QI.start⟩, H8.pm (by repeat (first | exact pm_refl _ | exact Pm.nil _ | constructor | refine pm_skip ?_))⟩ ?_
  rintro ⟨i, l⟩ W0 ⟨⟨⟨hi0, hi⟩, hl, hQ⟩, H⟩
  dsimp only at hi0 hi hl hQ H ⊢
  refine wc_seq ?_
  refine wcR ?_
  refine wM ?_
  refine wM ?_
  refine wV (v_lens Try.underlying9 rfl) ?_
  refine wV (v_lss rfl rfl) ?_
  refine wl_nil ?_
  refine wc_cond rfl (fun c2 => ?_) (fun c2 => ?_)
  rotate_left
  ·have c2p := oF c2
   refine wc_exit ?_
   refine wc_seq ?_
   refine wc_tree [0, 1, 2] (fun W => Holds w [SB 90 5 b8 l, Blk b7 34 [.int .i64 12, .int .i64 a], Blk b6 34 [.int .i64 0, .int .i64 0]] W) mixed ?_
   have Hd := H.drew
   have HSd : Holds w [SB 90 5 b8 l, Blk b7 34 [.int .i64 12, .int .i64 a], Blk b6 34 [.int .i64 0, .int .i64 0]] _ := Hd.pm (by repeat (first | exact pm_refl _ | exact Pm.nil _ | constructor | refine pm_skip ?_))
   refine wjV (k := 0) rfl HSd (fun W HW => v_loadN agg34 rfl rfl (HW.ats (by repeat constructor))) ?_
   refine wjV (k := 1) rfl HSd (fun W HW => v_assign rfl) ?_
   refine wjV (k := 2) rfl HSd (fun W HW => v_assign rfl) ?_
   refine wj_t (k := 3) rfl (by kernel_rfl) ?_
   refine wl_store (vs := [_, _]) Hd (by repeat constructor) sz34 rfl rfl rfl rfl rfl (by (repeat constructor)) ?_
   intro w45 H46 hw45
   refine wl_nil (tn ⟨fun hlt => absurd hlt (by rw [show allH _ _ _ = true by kernel_rfl]; simp), ?_⟩)
   refine wj_done (by kernel_rfl) ?_
   refine wc_ret ?_
   first
     | (have q_ := c4p
        exact ⟨_, resC3 rfl rfl rfl rfl (run_loadVarN agg34 rfl (H46.ats (by repeat constructor))), _, 0, _, _, rfl, .inr ⟨rfl, rfl, rfl, hQ.long (by omega) (by omega)⟩, H46.pm (by repeat (first | exact pm_refl _ | exact Pm.nil _ | constructor | refine pm_skip ?_))⟩)
     | (have q_ := c4p
        have hlz : (⟨l.toArray⟩ : ByteArray).size = l.length := rfl
        exact ⟨_, resC3 rfl rfl rfl rfl (run_loadVarN agg34 rfl (H46.ats (by repeat constructor))), ⟨l.toArray⟩, i + 1, 0, 0, rfl, .inl ⟨rfl, rfl, by omega, by omega, by omega, hQ.done (by omega)⟩, H46.pm (by repeat (first | exact pm_refl _ | exact Pm.nil _ | constructor | refine pm_skip ?_))⟩)
     | (have q_ := c7p
        exact ⟨_, resC3 rfl rfl rfl rfl (run_loadVarN agg34 rfl (H46.ats (by repeat constructor))), _, 0, _, _, rfl, .inr ⟨rfl, rfl, rfl, hQ.noesc (by omega) fun u m hEq => by have h1_ := (hE.2.2.2 u m hEq).2; rcases hEq with ⟨_, h2_, _⟩ | ⟨_, h2_, _⟩ <;> omega⟩, H46.pm (by repeat (first | exact pm_refl _ | exact Pm.nil _ | constructor | refine pm_skip ?_))⟩)
     | exact ⟨_, resC3 rfl rfl rfl rfl (run_loadVarN agg34 rfl (H46.ats (by repeat constructor))), _, 0, _, _, rfl, .inr ⟨rfl, rfl, rfl, hQ.bad (by first | exact .inl hb | omega)⟩, H46.pm (by repeat (first | exact pm_refl _ | exact Pm.nil _ | constructor | refine pm_skip ?_))⟩
     | exact ⟨_, resC3 rfl rfl rfl rfl (run_loadVarN agg34 rfl (H46.ats (by repeat constructor))), _, 0, _, _, rfl, .inr ⟨rfl, rfl, rfl, hQ.over (by omega)⟩, H46.pm (by repeat (first | exact pm_refl _ | exact Pm.nil _ | constructor | refine pm_skip ?_))⟩
  have c2p := oT c2
  have hin : i < s.size := by omega
  obtain ⟨hn1, hn2, hn3⟩ := nxt_fit hin
  rcases Bool.eq_false_or_eq_true (nxt s i).2.2 with hb | hb
  ·refine wc_skip ?_
   refine wc_block ?_
   refine wcR ?_
   refine wM ?_
   refine wM ?_
   refine wl_call en79 rfl rfl (next_calls (by omega) (by omega)) ?_
   rintro _ w9 ⟨rfl, Hc⟩
   have H10 := H.call0 Hc
   refine wM ?_
   refine wV (v_extract rfl rfl) ?_
   refine wV (v_extract rfl rfl) ?_
   refine wV (v_extract rfl rfl) ?_
   refine wA ?_
   refine wA ?_
   refine wA ?_
   refine wl_nil ?_
   refine wc_seq ?_
   refine wcR ?_
   refine wM ?_
   refine wV (v_eql rfl rfl) ?_
   refine wl_nil ?_
   refine wc_cond rfl (fun c3 => ?_) (fun c3 => ?_)
   ·have c3p := oT c3
    refine wc_seq ?_
    refine wcR ?_
    refine wl_call en80 rfl rfl (sbl_calls (by omega) (H10.turn (A := SB 90 5 b8 l) (by repeat constructor))) ?_
    rintro _ w11 ⟨rfl, Hc⟩
    refine wV (v_gtr rfl rfl) ?_
    refine wl_nil ?_
    refine wc_cond rfl (fun c4 => ?_) (fun c4 => ?_)
    rotate_left
    ·have c4p := oF c4
     refine wc_skip ?_
     refine wcR ?_
     refine wl_call en32 rfl rfl (sbs_calls (b := b8) (Hc.turn (A := SB 90 5 b8 l) (by repeat constructor))) ?_
     rintro _ w15 ⟨rfl, Hc⟩
     refine wM ?_
     refine wV (v_addi rfl rfl (by omega)) ?_
     refine wV (v_bld ba34 rfl (by repeat constructor)) ?_
     refine wA ?_
     refine wA ?_
     refine wl_store (vs := [_, _]) Hc (by repeat constructor) sz34 rfl rfl rfl rfl rfl (by (repeat constructor)) ?_
     intro w16 H17 hw16
     refine wl_nil ?_
     refine wc_ret ?_
     first
       | (have q_ := c4p
          exact ⟨_, resC3 rfl rfl rfl rfl (run_loadVarN agg34 rfl (H17.ats (by repeat constructor))), _, 0, _, _, rfl, .inr ⟨rfl, rfl, rfl, hQ.long (by omega) (by omega)⟩, H17.pm (by repeat (first | exact pm_refl _ | exact Pm.nil _ | constructor | refine pm_skip ?_))⟩)
       | (have q_ := c4p
          have hlz : (⟨l.toArray⟩ : ByteArray).size = l.length := rfl
          exact ⟨_, resC3 rfl rfl rfl rfl (run_loadVarN agg34 rfl (H17.ats (by repeat constructor))), ⟨l.toArray⟩, i + 1, 0, 0, rfl, .inl ⟨rfl, rfl, by omega, by omega, by omega, hQ.done (by omega)⟩, H17.pm (by repeat (first | exact pm_refl _ | exact Pm.nil _ | constructor | refine pm_skip ?_))⟩)
       | (have q_ := c7p
          exact ⟨_, resC3 rfl rfl rfl rfl (run_loadVarN agg34 rfl (H17.ats (by repeat constructor))), _, 0, _, _, rfl, .inr ⟨rfl, rfl, rfl, hQ.noesc (by omega) fun u m hEq => by have h1_ := (hE.2.2.2 u m hEq).2; rcases hEq with ⟨_, h2_, _⟩ | ⟨_, h2_, _⟩ <;> omega⟩, H17.pm (by repeat (first | exact pm_refl _ | exact Pm.nil _ | constructor | refine pm_skip ?_))⟩)
       | exact ⟨_, resC3 rfl rfl rfl rfl (run_loadVarN agg34 rfl (H17.ats (by repeat constructor))), _, 0, _, _, rfl, .inr ⟨rfl, rfl, rfl, hQ.bad (by first | exact .inl hb | omega)⟩, H17.pm (by repeat (first | exact pm_refl _ | exact Pm.nil _ | constructor | refine pm_skip ?_))⟩
       | exact ⟨_, resC3 rfl rfl rfl rfl (run_loadVarN agg34 rfl (H17.ats (by repeat constructor))), _, 0, _, _, rfl, .inr ⟨rfl, rfl, rfl, hQ.over (by omega)⟩, H17.pm (by repeat (first | exact pm_refl _ | exact Pm.nil _ | constructor | refine pm_skip ?_))⟩
    have c4p := oT c4
    refine wc_seq ?_
    refine wc_tree [0, 1, 2] (fun W => Holds w [SB 90 5 b8 l, Blk b7 34 [.int .i64 12, .int .i64 a], Blk b6 34 [.int .i64 0, .int .i64 0]] W) mixed ?_
    have Hd := Hc.drew
    have HSd : Holds w [SB 90 5 b8 l, Blk b7 34 [.int .i64 12, .int .i64 a], Blk b6 34 [.int .i64 0, .int .i64 0]] _ := Hd.pm (by repeat (first | exact pm_refl _ | exact Pm.nil _ | constructor | refine pm_skip ?_))
    refine wjV (k := 0) rfl HSd (fun W HW => v_loadN agg34 rfl rfl (HW.ats (by repeat constructor))) ?_
    refine wjV (k := 1) rfl HSd (fun W HW => v_assign rfl) ?_
    refine wjV (k := 2) rfl HSd (fun W HW => v_assign rfl) ?_
    refine wj_t (k := 3) rfl (by kernel_rfl) ?_
    refine wl_store (vs := [_, _]) Hd (by repeat constructor) sz34 rfl rfl rfl rfl rfl (by (repeat constructor)) ?_
    intro w12 H13 hw12
    refine wl_nil (tn ⟨fun hlt => absurd hlt (by rw [show allH _ _ _ = true by kernel_rfl]; simp), ?_⟩)
    refine wj_done (by kernel_rfl) ?_
    refine wc_ret ?_
    first
      | (have q_ := c4p
         exact ⟨_, resC3 rfl rfl rfl rfl (run_loadVarN agg34 rfl (H13.ats (by repeat constructor))), _, 0, _, _, rfl, .inr ⟨rfl, rfl, rfl, hQ.long (by omega) (by omega)⟩, H13.pm (by repeat (first | exact pm_refl _ | exact Pm.nil _ | constructor | refine pm_skip ?_))⟩)
      | (have q_ := c4p
         have hlz : (⟨l.toArray⟩ : ByteArray).size = l.length := rfl
         exact ⟨_, resC3 rfl rfl rfl rfl (run_loadVarN agg34 rfl (H13.ats (by repeat constructor))), ⟨l.toArray⟩, i + 1, 0, 0, rfl, .inl ⟨rfl, rfl, by omega, by omega, by omega, hQ.done (by omega)⟩, H13.pm (by repeat (first | exact pm_refl _ | exact Pm.nil _ | constructor | refine pm_skip ?_))⟩)
      | (have q_ := c7p
         exact ⟨_, resC3 rfl rfl rfl rfl (run_loadVarN agg34 rfl (H13.ats (by repeat constructor))), _, 0, _, _, rfl, .inr ⟨rfl, rfl, rfl, hQ.noesc (by omega) fun u m hEq => by have h1_ := (hE.2.2.2 u m hEq).2; rcases hEq with ⟨_, h2_, _⟩ | ⟨_, h2_, _⟩ <;> omega⟩, H13.pm (by repeat (first | exact pm_refl _ | exact Pm.nil _ | constructor | refine pm_skip ?_))⟩)
      | exact ⟨_, resC3 rfl rfl rfl rfl (run_loadVarN agg34 rfl (H13.ats (by repeat constructor))), _, 0, _, _, rfl, .inr ⟨rfl, rfl, rfl, hQ.bad (by first | exact .inl hb | omega)⟩, H13.pm (by repeat (first | exact pm_refl _ | exact Pm.nil _ | constructor | refine pm_skip ?_))⟩
      | exact ⟨_, resC3 rfl rfl rfl rfl (run_loadVarN agg34 rfl (H13.ats (by repeat constructor))), _, 0, _, _, rfl, .inr ⟨rfl, rfl, rfl, hQ.over (by omega)⟩, H13.pm (by repeat (first | exact pm_refl _ | exact Pm.nil _ | constructor | refine pm_skip ?_))⟩
   have c3p := oF c3
   refine wc_skip ?_
   refine wc_seq ?_
   refine wcR ?_
   refine wM ?_
   refine wV (v_not rfl) ?_
   refine wM ?_
   refine wl_on' rfl rfl (by rw [hb] <;> rfl) ?_
   refine wM ?_
   refine wl_on' rfl rfl (by rw [hb] <;> rfl) ?_
   refine wV (v_lss rfl rfl) ?_
   refine wV (v_pick_f rfl (by rw [hb] <;> rfl) rfl) ?_
   refine wM ?_
   refine wl_guard rfl rfl rfl (fun g60 => ?_) (fun g60 => ?_)
   rotate_left
   ·have g60p := oT g60
    refine wF g60 ?_
    refine wV (v_pick_t rfl g60 rfl) ?_
    refine wl_nil ?_
    refine wc_cond_t rfl ?_
    refine wc_seq ?_
    refine wc_tree [0, 1, 2] (fun W => Holds w [SB 90 5 b8 l, Blk b7 34 [.int .i64 12, .int .i64 a], Blk b6 34 [.int .i64 0, .int .i64 0]] W) mixed ?_
    have Hd := H10.drew
    have HSd : Holds w [SB 90 5 b8 l, Blk b7 34 [.int .i64 12, .int .i64 a], Blk b6 34 [.int .i64 0, .int .i64 0]] _ := Hd.pm (by repeat (first | exact pm_refl _ | exact Pm.nil _ | constructor | refine pm_skip ?_))
    refine wjV (k := 0) rfl HSd (fun W HW => v_loadN agg34 rfl rfl (HW.ats (by repeat constructor))) ?_
    refine wjV (k := 1) rfl HSd (fun W HW => v_assign rfl) ?_
    refine wjV (k := 2) rfl HSd (fun W HW => v_assign rfl) ?_
    refine wj_t (k := 3) rfl (by kernel_rfl) ?_
    refine wl_store (vs := [_, _]) Hd (by repeat constructor) sz34 rfl rfl rfl rfl rfl (by (repeat constructor)) ?_
    intro w30 H31 hw30
    refine wl_nil (tn ⟨fun hlt => absurd hlt (by rw [show allH _ _ _ = true by kernel_rfl]; simp), ?_⟩)
    refine wj_done (by kernel_rfl) ?_
    refine wc_ret ?_
    first
      | (have q_ := c4p
         exact ⟨_, resC3 rfl rfl rfl rfl (run_loadVarN agg34 rfl (H31.ats (by repeat constructor))), _, 0, _, _, rfl, .inr ⟨rfl, rfl, rfl, hQ.long (by omega) (by omega)⟩, H31.pm (by repeat (first | exact pm_refl _ | exact Pm.nil _ | constructor | refine pm_skip ?_))⟩)
      | (have q_ := c4p
         have hlz : (⟨l.toArray⟩ : ByteArray).size = l.length := rfl
         exact ⟨_, resC3 rfl rfl rfl rfl (run_loadVarN agg34 rfl (H31.ats (by repeat constructor))), ⟨l.toArray⟩, i + 1, 0, 0, rfl, .inl ⟨rfl, rfl, by omega, by omega, by omega, hQ.done (by omega)⟩, H31.pm (by repeat (first | exact pm_refl _ | exact Pm.nil _ | constructor | refine pm_skip ?_))⟩)
      | (have q_ := c7p
         exact ⟨_, resC3 rfl rfl rfl rfl (run_loadVarN agg34 rfl (H31.ats (by repeat constructor))), _, 0, _, _, rfl, .inr ⟨rfl, rfl, rfl, hQ.noesc (by omega) fun u m hEq => by have h1_ := (hE.2.2.2 u m hEq).2; rcases hEq with ⟨_, h2_, _⟩ | ⟨_, h2_, _⟩ <;> omega⟩, H31.pm (by repeat (first | exact pm_refl _ | exact Pm.nil _ | constructor | refine pm_skip ?_))⟩)
      | exact ⟨_, resC3 rfl rfl rfl rfl (run_loadVarN agg34 rfl (H31.ats (by repeat constructor))), _, 0, _, _, rfl, .inr ⟨rfl, rfl, rfl, hQ.bad (by first | exact .inl hb | omega)⟩, H31.pm (by repeat (first | exact pm_refl _ | exact Pm.nil _ | constructor | refine pm_skip ?_))⟩
      | exact ⟨_, resC3 rfl rfl rfl rfl (run_loadVarN agg34 rfl (H31.ats (by repeat constructor))), _, 0, _, _, rfl, .inr ⟨rfl, rfl, rfl, hQ.over (by omega)⟩, H31.pm (by repeat (first | exact pm_refl _ | exact Pm.nil _ | constructor | refine pm_skip ?_))⟩
   have g60p := oF g60
   refine wM ?_
   refine wO g60 ?_
   refine wV (v_eql rfl rfl) ?_
   refine wV (v_pick_f rfl g60 rfl) ?_
   refine wl_nil ?_
   refine wc_cond rfl (fun c5 => ?_) (fun c5 => ?_)
   ·have c5p := oT c5
    refine wc_seq ?_
    refine wc_tree [0, 1, 2] (fun W => Holds w [SB 90 5 b8 l, Blk b7 34 [.int .i64 12, .int .i64 a], Blk b6 34 [.int .i64 0, .int .i64 0]] W) mixed ?_
    have Hd := H10.drew
    have HSd : Holds w [SB 90 5 b8 l, Blk b7 34 [.int .i64 12, .int .i64 a], Blk b6 34 [.int .i64 0, .int .i64 0]] _ := Hd.pm (by repeat (first | exact pm_refl _ | exact Pm.nil _ | constructor | refine pm_skip ?_))
    refine wjV (k := 0) rfl HSd (fun W HW => v_loadN agg34 rfl rfl (HW.ats (by repeat constructor))) ?_
    refine wjV (k := 1) rfl HSd (fun W HW => v_assign rfl) ?_
    refine wjV (k := 2) rfl HSd (fun W HW => v_assign rfl) ?_
    refine wj_t (k := 3) rfl (by kernel_rfl) ?_
    refine wl_store (vs := [_, _]) Hd (by repeat constructor) sz34 rfl rfl rfl rfl rfl (by (repeat constructor)) ?_
    intro w18 H19 hw18
    refine wl_nil (tn ⟨fun hlt => absurd hlt (by rw [show allH _ _ _ = true by kernel_rfl]; simp), ?_⟩)
    refine wj_done (by kernel_rfl) ?_
    refine wc_ret ?_
    first
      | (have q_ := c4p
         exact ⟨_, resC3 rfl rfl rfl rfl (run_loadVarN agg34 rfl (H19.ats (by repeat constructor))), _, 0, _, _, rfl, .inr ⟨rfl, rfl, rfl, hQ.long (by omega) (by omega)⟩, H19.pm (by repeat (first | exact pm_refl _ | exact Pm.nil _ | constructor | refine pm_skip ?_))⟩)
      | (have q_ := c4p
         have hlz : (⟨l.toArray⟩ : ByteArray).size = l.length := rfl
         exact ⟨_, resC3 rfl rfl rfl rfl (run_loadVarN agg34 rfl (H19.ats (by repeat constructor))), ⟨l.toArray⟩, i + 1, 0, 0, rfl, .inl ⟨rfl, rfl, by omega, by omega, by omega, hQ.done (by omega)⟩, H19.pm (by repeat (first | exact pm_refl _ | exact Pm.nil _ | constructor | refine pm_skip ?_))⟩)
      | (have q_ := c7p
         exact ⟨_, resC3 rfl rfl rfl rfl (run_loadVarN agg34 rfl (H19.ats (by repeat constructor))), _, 0, _, _, rfl, .inr ⟨rfl, rfl, rfl, hQ.noesc (by omega) fun u m hEq => by have h1_ := (hE.2.2.2 u m hEq).2; rcases hEq with ⟨_, h2_, _⟩ | ⟨_, h2_, _⟩ <;> omega⟩, H19.pm (by repeat (first | exact pm_refl _ | exact Pm.nil _ | constructor | refine pm_skip ?_))⟩)
      | exact ⟨_, resC3 rfl rfl rfl rfl (run_loadVarN agg34 rfl (H19.ats (by repeat constructor))), _, 0, _, _, rfl, .inr ⟨rfl, rfl, rfl, hQ.bad (by first | exact .inl hb | omega)⟩, H19.pm (by repeat (first | exact pm_refl _ | exact Pm.nil _ | constructor | refine pm_skip ?_))⟩
      | exact ⟨_, resC3 rfl rfl rfl rfl (run_loadVarN agg34 rfl (H19.ats (by repeat constructor))), _, 0, _, _, rfl, .inr ⟨rfl, rfl, rfl, hQ.over (by omega)⟩, H19.pm (by repeat (first | exact pm_refl _ | exact Pm.nil _ | constructor | refine pm_skip ?_))⟩
   have c5p := oF c5
   refine wc_skip ?_
   refine wc_seq ?_
   refine wcR ?_
   refine wM ?_
   refine wV (v_neq rfl rfl) ?_
   refine wl_nil ?_
   refine wc_cond rfl (fun c6 => ?_) (fun c6 => ?_)
   ·have c6p := of_nd_t c6
    refine wcR ?_
    refine wM ?_
    refine wM ?_
    refine wM ?_
    refine wM ?_
    refine wV (v_addi rfl rfl (by omega)) ?_
    refine wV (v_cut Try.underlying9 rfl rfl rfl (by omega) (by omega) (by omega)) ?_
    rw [show ((i : Int) + ((nxt s i).2.1 : Nat)).toNat = i + (nxt s i).2.1 by omega, Int.toNat_natCast]
    refine wl_call en57 rfl rfl (ws_calls (b := b8) (l := l) (by omega) ⟨by rw [ByteArray.size_extract]; omega, by rw [ByteArray.size_extract]; omega⟩ (H10.turn (A := SB 90 5 b8 l) (by repeat constructor))) ?_
    rintro _ w22 Hc
    refine wl_nil ?_
    refine wcR ?_
    refine wM ?_
    refine wM ?_
    refine wV (v_addi rfl rfl (by omega)) ?_
    refine wA ?_
    refine wl_nil ?_
    refine wc_exit ?_
    first
      | (have q_ := c6p
         have hel : (s.extract i (i + (nxt s i).2.1)).data.toList.length = (nxt s i).2.1 := by rw [tl_len, ByteArray.size_extract]; omega
         exact ⟨(i + (nxt s i).2.1, l ++ (s.extract i (i + (nxt s i).2.1)).data.toList), by (dsimp only; rw [show (((i + (nxt s i).2.1 : Nat)) : Int) = (i : Int) + ((nxt s i).2.1 : Nat) from Int.natCast_add _ _]; exact (sc rfl (sc rfl (sc rfl (sc rfl (sc rfl (sc rfl (sn _)))))))), ⟨⟨⟨by dsimp only; omega, by dsimp only; omega⟩, by (dsimp only; rw [List.length_append, hel]; omega), hQ.raw hin (by omega) (by omega)⟩, Hc.pm (by repeat (first | exact pm_refl _ | exact Pm.nil _ | constructor | refine pm_skip ?_))⟩, by dsimp only; omega⟩)
      | (have hel : cE.data.toList.length = cE.size := tl_len cE
         exact ⟨(i + nE, l ++ cE.data.toList), by (dsimp only; rw [show (((i + nE : Nat)) : Int) = (i : Int) + (nE : Nat) from Int.natCast_add _ _]; exact (sc rfl (sc rfl (sc rfl (sc rfl (sc rfl (sc rfl (sn _)))))))), ⟨⟨⟨by dsimp only; omega, by dsimp only; omega⟩, by (dsimp only; rw [List.length_append, hel]; omega), hQ.esc hin (by omega) hE.2.2.2⟩, Hc.pm (by repeat (first | exact pm_refl _ | exact Pm.nil _ | constructor | refine pm_skip ?_))⟩, by dsimp only; omega⟩)
   have c6p := of_nd_f c6
   refine wc_skip ?_
   refine wcR ?_
   refine wM ?_
   refine wM ?_
   refine wV (v_cut_l Try.underlying9 rfl rfl (by omega) (by omega)) ?_
   rw [Int.toNat_natCast]
   refine wl_call en81 rfl rfl (escape_calls (by rw [ByteArray.size_extract]; omega)) ?_
   rintro _ w24 ⟨cE, nE, rfl, hE, Hc⟩
   have H25 := H10.call0 Hc
   have hEn := hE.1
   rw [ByteArray.size_extract] at hEn
   have hE4 := hE.2.1
   refine wM ?_
   refine wV (v_extract rfl rfl) ?_
   refine wV (v_extract rfl rfl) ?_
   refine wA ?_
   refine wA ?_
   refine wl_nil ?_
   refine wc_seq ?_
   refine wcR ?_
   refine wM ?_
   refine wV (v_eql rfl rfl) ?_
   refine wl_nil ?_
   refine wc_cond rfl (fun c7 => ?_) (fun c7 => ?_)
   rotate_left
   ·have c7p := oF c7
    refine wc_skip ?_
    refine wcR ?_
    refine wM ?_
    refine wl_call en57 rfl rfl (ws_calls (b := b8) (l := l) (by omega) ⟨hE.2.2.1 (by omega), by have h_ := hE.2.1; omega⟩ (H25.turn (A := SB 90 5 b8 l) (by repeat constructor))) ?_
    rintro _ w29 Hc
    refine wl_nil ?_
    refine wc_region ?_
    refine wM ?_
    refine wM ?_
    refine wV (v_addi rfl rfl (by omega)) ?_
    refine wA ?_
    refine wl_nil ?_
    first
      | (have q_ := c6p
         have hel : (s.extract i (i + (nxt s i).2.1)).data.toList.length = (nxt s i).2.1 := by rw [tl_len, ByteArray.size_extract]; omega
         exact ⟨(i + (nxt s i).2.1, l ++ (s.extract i (i + (nxt s i).2.1)).data.toList), by (dsimp only; rw [show (((i + (nxt s i).2.1 : Nat)) : Int) = (i : Int) + ((nxt s i).2.1 : Nat) from Int.natCast_add _ _]; exact (sc rfl (sc rfl (sc rfl (sc rfl (sc rfl (sc rfl (sn _)))))))), ⟨⟨⟨by dsimp only; omega, by dsimp only; omega⟩, by (dsimp only; rw [List.length_append, hel]; omega), hQ.raw hin (by omega) (by omega)⟩, Hc.pm (by repeat (first | exact pm_refl _ | exact Pm.nil _ | constructor | refine pm_skip ?_))⟩, by dsimp only; omega⟩)
      | (have hel : cE.data.toList.length = cE.size := tl_len cE
         exact ⟨(i + nE, l ++ cE.data.toList), by (dsimp only; rw [show (((i + nE : Nat)) : Int) = (i : Int) + (nE : Nat) from Int.natCast_add _ _]; exact (sc rfl (sc rfl (sc rfl (sc rfl (sc rfl (sc rfl (sn _)))))))), ⟨⟨⟨by dsimp only; omega, by dsimp only; omega⟩, by (dsimp only; rw [List.length_append, hel]; omega), hQ.esc hin (by omega) hE.2.2.2⟩, Hc.pm (by repeat (first | exact pm_refl _ | exact Pm.nil _ | constructor | refine pm_skip ?_))⟩, by dsimp only; omega⟩)
   have c7p := oT c7
   refine wc_seq ?_
   refine wc_tree [0, 1, 2] (fun W => Holds w [SB 90 5 b8 l, Blk b7 34 [.int .i64 12, .int .i64 a], Blk b6 34 [.int .i64 0, .int .i64 0]] W) mixed ?_
   have Hd := H25.drew
   have HSd : Holds w [SB 90 5 b8 l, Blk b7 34 [.int .i64 12, .int .i64 a], Blk b6 34 [.int .i64 0, .int .i64 0]] _ := Hd.pm (by repeat (first | exact pm_refl _ | exact Pm.nil _ | constructor | refine pm_skip ?_))
   refine wjV (k := 0) rfl HSd (fun W HW => v_loadN agg34 rfl rfl (HW.ats (by repeat constructor))) ?_
   refine wjV (k := 1) rfl HSd (fun W HW => v_assign rfl) ?_
   refine wjV (k := 2) rfl HSd (fun W HW => v_assign rfl) ?_
   refine wj_t (k := 3) rfl (by kernel_rfl) ?_
   refine wl_store (vs := [_, _]) Hd (by repeat constructor) sz34 rfl rfl rfl rfl rfl (by (repeat constructor)) ?_
   intro w26 H27 hw26
   refine wl_nil (tn ⟨fun hlt => absurd hlt (by rw [show allH _ _ _ = true by kernel_rfl]; simp), ?_⟩)
   refine wj_done (by kernel_rfl) ?_
   refine wc_ret ?_
   first
     | (have q_ := c4p
        exact ⟨_, resC3 rfl rfl rfl rfl (run_loadVarN agg34 rfl (H27.ats (by repeat constructor))), _, 0, _, _, rfl, .inr ⟨rfl, rfl, rfl, hQ.long (by omega) (by omega)⟩, H27.pm (by repeat (first | exact pm_refl _ | exact Pm.nil _ | constructor | refine pm_skip ?_))⟩)
     | (have q_ := c4p
        have hlz : (⟨l.toArray⟩ : ByteArray).size = l.length := rfl
        exact ⟨_, resC3 rfl rfl rfl rfl (run_loadVarN agg34 rfl (H27.ats (by repeat constructor))), ⟨l.toArray⟩, i + 1, 0, 0, rfl, .inl ⟨rfl, rfl, by omega, by omega, by omega, hQ.done (by omega)⟩, H27.pm (by repeat (first | exact pm_refl _ | exact Pm.nil _ | constructor | refine pm_skip ?_))⟩)
     | (have q_ := c7p
        exact ⟨_, resC3 rfl rfl rfl rfl (run_loadVarN agg34 rfl (H27.ats (by repeat constructor))), _, 0, _, _, rfl, .inr ⟨rfl, rfl, rfl, hQ.noesc (by omega) fun u m hEq => by have h1_ := (hE.2.2.2 u m hEq).2; rcases hEq with ⟨_, h2_, _⟩ | ⟨_, h2_, _⟩ <;> omega⟩, H27.pm (by repeat (first | exact pm_refl _ | exact Pm.nil _ | constructor | refine pm_skip ?_))⟩)
     | exact ⟨_, resC3 rfl rfl rfl rfl (run_loadVarN agg34 rfl (H27.ats (by repeat constructor))), _, 0, _, _, rfl, .inr ⟨rfl, rfl, rfl, hQ.bad (by first | exact .inl hb | omega)⟩, H27.pm (by repeat (first | exact pm_refl _ | exact Pm.nil _ | constructor | refine pm_skip ?_))⟩
     | exact ⟨_, resC3 rfl rfl rfl rfl (run_loadVarN agg34 rfl (H27.ats (by repeat constructor))), _, 0, _, _, rfl, .inr ⟨rfl, rfl, rfl, hQ.over (by omega)⟩, H27.pm (by repeat (first | exact pm_refl _ | exact Pm.nil _ | constructor | refine pm_skip ?_))⟩
  ·refine wc_skip ?_
   refine wc_block ?_
   refine wcR ?_
   refine wM ?_
   refine wM ?_
   refine wl_call en79 rfl rfl (next_calls (by omega) (by omega)) ?_
   rintro _ w33 ⟨rfl, Hc⟩
   have H34 := H.call0 Hc
   refine wM ?_
   refine wV (v_extract rfl rfl) ?_
   refine wV (v_extract rfl rfl) ?_
   refine wV (v_extract rfl rfl) ?_
   refine wA ?_
   refine wA ?_
   refine wA ?_
   refine wl_nil ?_
   refine wc_seq ?_
   refine wcR ?_
   refine wM ?_
   refine wV (v_eql rfl rfl) ?_
   refine wl_nil ?_
   refine wc_cond rfl (fun c3 => ?_) (fun c3 => ?_)
   rotate_left
   ·have c3p := oF c3
    refine wc_skip ?_
    refine wc_seq ?_
    refine wcR ?_
    refine wM ?_
    refine wV (v_not rfl) ?_
    refine wM ?_
    refine wl_off rfl rfl (by rw [hb] <;> rfl) rfl ?_
    refine wl_off rfl rfl (by rw [hb] <;> rfl) rfl ?_
    refine wV (v_pick_t rfl (by rw [hb] <;> rfl) rfl) ?_
    refine wM ?_
    refine wF rfl ?_
    refine wF rfl ?_
    refine wV (v_pick_t rfl rfl rfl) ?_
    refine wl_nil ?_
    refine wc_cond_t rfl ?_
    refine wc_seq ?_
    refine wc_tree [0, 1, 2] (fun W => Holds w [SB 90 5 b8 l, Blk b7 34 [.int .i64 12, .int .i64 a], Blk b6 34 [.int .i64 0, .int .i64 0]] W) mixed ?_
    have Hd := H34.drew
    have HSd : Holds w [SB 90 5 b8 l, Blk b7 34 [.int .i64 12, .int .i64 a], Blk b6 34 [.int .i64 0, .int .i64 0]] _ := Hd.pm (by repeat (first | exact pm_refl _ | exact Pm.nil _ | constructor | refine pm_skip ?_))
    refine wjV (k := 0) rfl HSd (fun W HW => v_loadN agg34 rfl rfl (HW.ats (by repeat constructor))) ?_
    refine wjV (k := 1) rfl HSd (fun W HW => v_assign rfl) ?_
    refine wjV (k := 2) rfl HSd (fun W HW => v_assign rfl) ?_
    refine wj_t (k := 3) rfl (by kernel_rfl) ?_
    refine wl_store (vs := [_, _]) Hd (by repeat constructor) sz34 rfl rfl rfl rfl rfl (by (repeat constructor)) ?_
    intro w42 H43 hw42
    refine wl_nil (tn ⟨fun hlt => absurd hlt (by rw [show allH _ _ _ = true by kernel_rfl]; simp), ?_⟩)
    refine wj_done (by kernel_rfl) ?_
    refine wc_ret ?_
    first
      | (have q_ := c4p
         exact ⟨_, resC3 rfl rfl rfl rfl (run_loadVarN agg34 rfl (H43.ats (by repeat constructor))), _, 0, _, _, rfl, .inr ⟨rfl, rfl, rfl, hQ.long (by omega) (by omega)⟩, H43.pm (by repeat (first | exact pm_refl _ | exact Pm.nil _ | constructor | refine pm_skip ?_))⟩)
      | (have q_ := c4p
         have hlz : (⟨l.toArray⟩ : ByteArray).size = l.length := rfl
         exact ⟨_, resC3 rfl rfl rfl rfl (run_loadVarN agg34 rfl (H43.ats (by repeat constructor))), ⟨l.toArray⟩, i + 1, 0, 0, rfl, .inl ⟨rfl, rfl, by omega, by omega, by omega, hQ.done (by omega)⟩, H43.pm (by repeat (first | exact pm_refl _ | exact Pm.nil _ | constructor | refine pm_skip ?_))⟩)
      | (have q_ := c7p
         exact ⟨_, resC3 rfl rfl rfl rfl (run_loadVarN agg34 rfl (H43.ats (by repeat constructor))), _, 0, _, _, rfl, .inr ⟨rfl, rfl, rfl, hQ.noesc (by omega) fun u m hEq => by have h1_ := (hE.2.2.2 u m hEq).2; rcases hEq with ⟨_, h2_, _⟩ | ⟨_, h2_, _⟩ <;> omega⟩, H43.pm (by repeat (first | exact pm_refl _ | exact Pm.nil _ | constructor | refine pm_skip ?_))⟩)
      | exact ⟨_, resC3 rfl rfl rfl rfl (run_loadVarN agg34 rfl (H43.ats (by repeat constructor))), _, 0, _, _, rfl, .inr ⟨rfl, rfl, rfl, hQ.bad (by first | exact .inl hb | omega)⟩, H43.pm (by repeat (first | exact pm_refl _ | exact Pm.nil _ | constructor | refine pm_skip ?_))⟩
      | exact ⟨_, resC3 rfl rfl rfl rfl (run_loadVarN agg34 rfl (H43.ats (by repeat constructor))), _, 0, _, _, rfl, .inr ⟨rfl, rfl, rfl, hQ.over (by omega)⟩, H43.pm (by repeat (first | exact pm_refl _ | exact Pm.nil _ | constructor | refine pm_skip ?_))⟩
   have c3p := oT c3
   refine wc_seq ?_
   refine wcR ?_
   refine wl_call en80 rfl rfl (sbl_calls (by omega) (H34.turn (A := SB 90 5 b8 l) (by repeat constructor))) ?_
   rintro _ w35 ⟨rfl, Hc⟩
   refine wV (v_gtr rfl rfl) ?_
   refine wl_nil ?_
   refine wc_cond rfl (fun c4 => ?_) (fun c4 => ?_)
   rotate_left
   ·have c4p := oF c4
    refine wc_skip ?_
    refine wcR ?_
    refine wl_call en32 rfl rfl (sbs_calls (b := b8) (Hc.turn (A := SB 90 5 b8 l) (by repeat constructor))) ?_
    rintro _ w39 ⟨rfl, Hc⟩
    refine wM ?_
    refine wV (v_addi rfl rfl (by omega)) ?_
    refine wV (v_bld ba34 rfl (by repeat constructor)) ?_
    refine wA ?_
    refine wA ?_
    refine wl_store (vs := [_, _]) Hc (by repeat constructor) sz34 rfl rfl rfl rfl rfl (by (repeat constructor)) ?_
    intro w40 H41 hw40
    refine wl_nil ?_
    refine wc_ret ?_
    first
      | (have q_ := c4p
         exact ⟨_, resC3 rfl rfl rfl rfl (run_loadVarN agg34 rfl (H41.ats (by repeat constructor))), _, 0, _, _, rfl, .inr ⟨rfl, rfl, rfl, hQ.long (by omega) (by omega)⟩, H41.pm (by repeat (first | exact pm_refl _ | exact Pm.nil _ | constructor | refine pm_skip ?_))⟩)
      | (have q_ := c4p
         have hlz : (⟨l.toArray⟩ : ByteArray).size = l.length := rfl
         exact ⟨_, resC3 rfl rfl rfl rfl (run_loadVarN agg34 rfl (H41.ats (by repeat constructor))), ⟨l.toArray⟩, i + 1, 0, 0, rfl, .inl ⟨rfl, rfl, by omega, by omega, by omega, hQ.done (by omega)⟩, H41.pm (by repeat (first | exact pm_refl _ | exact Pm.nil _ | constructor | refine pm_skip ?_))⟩)
      | (have q_ := c7p
         exact ⟨_, resC3 rfl rfl rfl rfl (run_loadVarN agg34 rfl (H41.ats (by repeat constructor))), _, 0, _, _, rfl, .inr ⟨rfl, rfl, rfl, hQ.noesc (by omega) fun u m hEq => by have h1_ := (hE.2.2.2 u m hEq).2; rcases hEq with ⟨_, h2_, _⟩ | ⟨_, h2_, _⟩ <;> omega⟩, H41.pm (by repeat (first | exact pm_refl _ | exact Pm.nil _ | constructor | refine pm_skip ?_))⟩)
      | exact ⟨_, resC3 rfl rfl rfl rfl (run_loadVarN agg34 rfl (H41.ats (by repeat constructor))), _, 0, _, _, rfl, .inr ⟨rfl, rfl, rfl, hQ.bad (by first | exact .inl hb | omega)⟩, H41.pm (by repeat (first | exact pm_refl _ | exact Pm.nil _ | constructor | refine pm_skip ?_))⟩
      | exact ⟨_, resC3 rfl rfl rfl rfl (run_loadVarN agg34 rfl (H41.ats (by repeat constructor))), _, 0, _, _, rfl, .inr ⟨rfl, rfl, rfl, hQ.over (by omega)⟩, H41.pm (by repeat (first | exact pm_refl _ | exact Pm.nil _ | constructor | refine pm_skip ?_))⟩
   have c4p := oT c4
   refine wc_seq ?_
   refine wc_tree [0, 1, 2] (fun W => Holds w [SB 90 5 b8 l, Blk b7 34 [.int .i64 12, .int .i64 a], Blk b6 34 [.int .i64 0, .int .i64 0]] W) mixed ?_
   have Hd := Hc.drew
   have HSd : Holds w [SB 90 5 b8 l, Blk b7 34 [.int .i64 12, .int .i64 a], Blk b6 34 [.int .i64 0, .int .i64 0]] _ := Hd.pm (by repeat (first | exact pm_refl _ | exact Pm.nil _ | constructor | refine pm_skip ?_))
   refine wjV (k := 0) rfl HSd (fun W HW => v_loadN agg34 rfl rfl (HW.ats (by repeat constructor))) ?_
   refine wjV (k := 1) rfl HSd (fun W HW => v_assign rfl) ?_
   refine wjV (k := 2) rfl HSd (fun W HW => v_assign rfl) ?_
   refine wj_t (k := 3) rfl (by kernel_rfl) ?_
   refine wl_store (vs := [_, _]) Hd (by repeat constructor) sz34 rfl rfl rfl rfl rfl (by (repeat constructor)) ?_
   intro w36 H37 hw36
   refine wl_nil (tn ⟨fun hlt => absurd hlt (by rw [show allH _ _ _ = true by kernel_rfl]; simp), ?_⟩)
   refine wj_done (by kernel_rfl) ?_
   refine wc_ret ?_
   first
     | (have q_ := c4p
        exact ⟨_, resC3 rfl rfl rfl rfl (run_loadVarN agg34 rfl (H37.ats (by repeat constructor))), _, 0, _, _, rfl, .inr ⟨rfl, rfl, rfl, hQ.long (by omega) (by omega)⟩, H37.pm (by repeat (first | exact pm_refl _ | exact Pm.nil _ | constructor | refine pm_skip ?_))⟩)
     | (have q_ := c4p
        have hlz : (⟨l.toArray⟩ : ByteArray).size = l.length := rfl
        exact ⟨_, resC3 rfl rfl rfl rfl (run_loadVarN agg34 rfl (H37.ats (by repeat constructor))), ⟨l.toArray⟩, i + 1, 0, 0, rfl, .inl ⟨rfl, rfl, by omega, by omega, by omega, hQ.done (by omega)⟩, H37.pm (by repeat (first | exact pm_refl _ | exact Pm.nil _ | constructor | refine pm_skip ?_))⟩)
     | (have q_ := c7p
        exact ⟨_, resC3 rfl rfl rfl rfl (run_loadVarN agg34 rfl (H37.ats (by repeat constructor))), _, 0, _, _, rfl, .inr ⟨rfl, rfl, rfl, hQ.noesc (by omega) fun u m hEq => by have h1_ := (hE.2.2.2 u m hEq).2; rcases hEq with ⟨_, h2_, _⟩ | ⟨_, h2_, _⟩ <;> omega⟩, H37.pm (by repeat (first | exact pm_refl _ | exact Pm.nil _ | constructor | refine pm_skip ?_))⟩)
     | exact ⟨_, resC3 rfl rfl rfl rfl (run_loadVarN agg34 rfl (H37.ats (by repeat constructor))), _, 0, _, _, rfl, .inr ⟨rfl, rfl, rfl, hQ.bad (by first | exact .inl hb | omega)⟩, H37.pm (by repeat (first | exact pm_refl _ | exact Pm.nil _ | constructor | refine pm_skip ?_))⟩
     | exact ⟨_, resC3 rfl rfl rfl rfl (run_loadVarN agg34 rfl (H37.ats (by repeat constructor))), _, 0, _, _, rfl, .inr ⟨rfl, rfl, rfl, hQ.over (by omega)⟩, H37.pm (by repeat (first | exact pm_refl _ | exact Pm.nil _ | constructor | refine pm_skip ?_))⟩
end Go.Proofs.Ytgdemplcpcacaaa.QuotedW

/-! Equality of a pair of numbers of two types. -/
namespace Go.Proofs.YtgdemplcpcacaaaFx
open Go Go.RowKit
theorem eql_mv2 {P : Program} {t e e2 : TypeId} {k' k2 : IntKind} {f0 f1 : Field} (ht' : P.underlying t = some (.struct #[f0, f1])) (hp : P.stoodInHeld t = false) (hg : P.eqGuardType P.depth t = false) (he : P.underlying e = some (.int k')) (he2 : P.underlying e2 = some (.int k2)) (h0 : (f0.name != "_", f0.type, f0.offset) = (true, e, 0)) (h1 : (f1.name != "_", f1.type, f1.offset) = (true, e2, 1)) : EqlMv P t := by
  have hf0 : P.fieldsOf t = #[f0, f1] := by simp only [Program.fieldsOf, ht']
  have ht : P.underlying t = some (.struct (P.fieldsOf t)) := by rw [hf0]; exact ht'
  have hf : (P.fieldsOf t).toList = [f0, f1] := by rw [hf0]
  refine ⟨hg, fun W x y => ?_⟩
  rw [run_equalIn_struct W 9999 t _ _ ht hp, hf, eqf_step (d := 9998) (off := 0) (k := .i64) (a := x.d) (b := y.d) he h0 rfl rfl, eqf_step (d := 9998) (off := 1) (k := .i64) (a := x.n) (b := y.n) he2 h1 rfl rfl]
  obtain ⟨a, b⟩ := x
  obtain ⟨c, d⟩ := y
  by_cases hac : a = c <;> by_cases hbd : b = d <;> simp [hac, hbd, Op.eqFields]
end Go.Proofs.YtgdemplcpcacaaaFx
