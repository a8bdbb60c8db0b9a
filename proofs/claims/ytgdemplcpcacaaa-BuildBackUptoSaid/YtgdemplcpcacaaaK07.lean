/- What actions' closures make. Closures are made of actions. Values: what is left of so many parts, copies, marks, what a derivation's actions make. What a derivation's actions make. The program's values. -/
import Derived.Test.YtgdemplcpcacaaaProg
import Derived.Test.YtgdemplcpcacaaaK03
import Derived.Test.YtgdemplcpcacaaaK06
set_option linter.unusedVariables false
set_option linter.unusedSimpArgs false
/-! What actions' closures make. -/
namespace Go.Proofs.Ytgdemplcpcacaaa.MakeW
open Go Go.RowKit Go.Proofs.YtgdemplcpcacaaaFx 
theorem agg24 : Agg Try.prog 24 4 := agg_of Try.underlying24 (by kernel_rfl)
theorem ba24 : BuildAt Try.prog 24 [.int .i64 0, .string ⟨#[]⟩, .int .i64 0, .slice none 0 0] [(0, 1), (1, 1), (2, 1), (3, 1)] := build_at Try.underlying24 (by kernel_rfl) (by kernel_rfl)
theorem en64 : Enters Try.prog 64 := enters Try.func64 (by kernel_rfl) rfl
theorem en65 : Enters Try.prog 65 := enters Try.func65 (by kernel_rfl) rfl
theorem en66 : Enters Try.prog 66 := enters Try.func66 (by kernel_rfl) rfl
theorem en67 : Enters Try.prog 67 := enters Try.func67 (by kernel_rfl) rfl
theorem fa24_3 : FieldAt Try.prog 24 3 3 := field_at (sz := 0) Try.underlying24 rfl (by kernel_rfl) rfl
theorem fa69_1 : FieldAt Try.prog 69 1 1 := field_at (sz := 0) Try.underlying69 rfl (by kernel_rfl) rfl
theorem fa69_2 : FieldAt Try.prog 69 2 2 := field_at (sz := 0) Try.underlying69 rfl (by kernel_rfl) rfl
theorem info24 : (Try.prog.info? 24).map (fun i => (i.zero, i.size, i.bytes)) = some (some (.agg #[.int .i64 0, .string ⟨#[]⟩, .int .i64 0, .slice none 0 0]), 4, 56) := by kernel_rfl
theorem mixed : Try.prog.follows .mixedOrders = true := by kernel_rfl
theorem one103 : One Try.prog 103 := one_of Try.underlying103 rfl (by kernel_rfl)
theorem one107 : One Try.prog 107 := one_of Try.underlying107 rfl (by kernel_rfl)
theorem one22 : One Try.prog 22 := one_of Try.underlying22 rfl (by kernel_rfl)
theorem one3 : One Try.prog 3 := one_of Try.underlying3 rfl (by kernel_rfl)
theorem one9 : One Try.prog 9 := one_of Try.underlying9 rfl (by kernel_rfl)
theorem sz107 : ∀ W, (sizeOf 107).run Try.prog W = .ok 1 W := size_of (by kernel_rfl)
theorem sz22 : ∀ W, (sizeOf 22).run Try.prog W = .ok 1 W := size_of (by kernel_rfl)
theorem sz24 : ∀ W, (sizeOf 24).run Try.prog W = .ok 4 W := size_of (by kernel_rfl)
theorem zv24 : ∀ W, (zeroValue 24).run Try.prog W = .ok (.agg #[.int .i64 0, .string ⟨#[]⟩, .int .i64 0, .slice none 0 0]) W := zero_of (by kernel_rfl)

mutual
/-- A closure of an action, as it is known. -/
def Fc.K (C : Addr → Value → Prop) : Ac → Value → Prop
  | .mk x kids, v => ∃ b, (∀ j u, ([.int .i64 x.kind, .int .i64 x.at_, .string x.name] : List Value)[j]? = some u → C ⟨b, j, none⟩ u) ∧
    ((x.kind = 1 ∧ v = .func (.func 64) #[] #[.pointer (some ⟨b, 0, none⟩)]) ∨ (x.kind = 3 ∧ v = .func (.func 65) #[] #[.pointer (some ⟨b, 0, none⟩)]) ∨
     (x.kind = 2 ∧ ∃ bl A c, v = .func (.func 66) #[] #[.pointer (some ⟨b, 0, none⟩), .pointer (some ⟨bl, 0, none⟩)] ∧ C ⟨bl, 0, none⟩ (.slice A kids.length c) ∧ (0 < kids.length → A = some (adr A)) ∧ Fc.Ks C kids (adr A) 0) ∨
     ((x.kind ≠ 1 ∧ x.kind ≠ 2 ∧ x.kind ≠ 3) ∧ v = .func (.func 67) #[] #[]))
def Fc.Ks (C : Addr → Value → Prop) : List Ac → Addr → Nat → Prop
  | [], _, _ => True
  | t :: r, p, j => (∃ v, Fc.K C t v ∧ C (p.add (j * 1)) v) ∧ Fc.Ks C r p (j + 1)
end
mutual
theorem Fc.K.mono {C C' : Addr → Value → Prop} (hC : ∀ p v, C p v → C' p v) : ∀ (t : Ac) (v : Value), Fc.K C t v → Fc.K C' t v
  | .mk x kids, v, h => by
    unfold Fc.K at h ⊢
    obtain ⟨b, h1, h2⟩ := h
    refine ⟨b, fun j u hu => hC _ _ (h1 j u hu), ?_⟩
    rcases h2 with h2 | h2 | ⟨h2, bl, A, c, h3, h4, h5, h6⟩ | h2
    · exact .inl h2
    · exact .inr (.inl h2)
    · exact .inr (.inr (.inl ⟨h2, bl, A, c, h3, hC _ _ h4, h5, Fc.Ks.mono hC kids (adr A) 0 h6⟩))
    · exact .inr (.inr (.inr h2))
theorem Fc.Ks.mono {C C' : Addr → Value → Prop} (hC : ∀ p v, C p v → C' p v) : ∀ (ts : List Ac) (p : Addr) (j : Nat), Fc.Ks C ts p j → Fc.Ks C' ts p j
  | [], _, _, _ => by unfold Fc.Ks; trivial
  | t :: r, p, j, h => by
    unfold Fc.Ks at h ⊢
    obtain ⟨⟨v, h1, h2⟩, h3⟩ := h
    exact ⟨⟨v, Fc.K.mono hC t v h1, hC _ _ h2⟩, Fc.Ks.mono hC r p (j + 1) h3⟩
end
theorem Fc.Ks.el {C : Addr → Value → Prop} : ∀ (ts : List Ac) (p : Addr) (j0 : Nat), Fc.Ks C ts p j0 → ∀ j t, ts[j]? = some t → ∃ v, Fc.K C t v ∧ C (p.add ((j0 + j) * 1)) v
  | [], _, _, _, j, t, h => by simp at h
  | t :: r, p, j0, h, j, t', ht => by
    unfold Fc.Ks at h
    obtain ⟨h1, h2⟩ := h
    cases j with
    | zero =>
      simp only [List.getElem?_cons_zero, Option.some.injEq] at ht
      subst ht
      exact h1
    | succ j =>
      obtain ⟨v, h3, h4⟩ := Fc.Ks.el r p (j0 + 1) h2 j t' (by simpa using ht)
      exact ⟨v, h3, by rw [show j0 + (j + 1) = j0 + 1 + j by omega]; exact h4⟩
theorem Fc.Ks.of {C : Addr → Value → Prop} : ∀ (ts : List Ac) (p : Addr) (j0 : Nat), (∀ j t, ts[j]? = some t → ∃ v, Fc.K C t v ∧ C (p.add ((j0 + j) * 1)) v) → Fc.Ks C ts p j0
  | [], _, _, _ => by unfold Fc.Ks; trivial
  | t :: r, p, j0, h => by
    unfold Fc.Ks
    exact ⟨h 0 t rfl, Fc.Ks.of r p (j0 + 1) fun j t' ht => by
      obtain ⟨v, h1, h2⟩ := h (j + 1) t' (by simpa using ht)
      exact ⟨v, h1, by rw [show j0 + 1 + j = j0 + (j + 1) by omega]; exact h2⟩⟩
theorem Fc.K.one {C : Addr → Value → Prop} {t : Ac} {v : Value} (h : Fc.K C t v) : v.oneCell' = true := by
  cases t with
  | mk x kids =>
    unfold Fc.K at h
    obtain ⟨b, _, h | h | ⟨_, bl, A, c, h, _⟩ | h⟩ := h
    · rw [h.2]; rfl
    · rw [h.2]; rfl
    · rw [h]; rfl
    · rw [h.2]; rfl
/-- Closures as frozen things. -/
def krFc : Kr Ac where
  sz := 1
  K := fun C t cs => ∃ v, cs = [v] ∧ Fc.K C t v
  len := fun ⟨v, h, _⟩ => by rw [h]; rfl
  one := fun ⟨v, h, hk⟩ u hu => by rw [h] at hu; rw [List.mem_singleton.1 hu]; exact hk.one
  mono := fun hC ⟨v, h, hk⟩ => ⟨v, h, Fc.K.mono hC _ v hk⟩
theorem fc_row {C : Addr → Value → Prop} {A : Option Addr} {ts : List Ac} (h : RdC krFc C A ts) : Fc.Ks C ts (adr A) 0 := Fc.Ks.of _ _ _ fun j t ht => by
  obtain ⟨cs, ⟨v, rfl, h1⟩, h2⟩ := h.el j t ht
  exact ⟨v, h1, by have := h2 0 v rfl; rw [Nat.zero_add]; exact this⟩
def FcOk (t : Ac) : Prop := ∀ (w : World) (v : Value) (T : Nat → Prop) (A : Option Addr) (c : Nat) (ks : List Nd), Fc.K (atW w) t v → t.All (nodeOk ks.length) → (RdC (krTr fNd) (fun p v => T p.block ∧ w.cell? p = some v) A ks) → (∀ k, T k → k < w.heap.size) → t.cnt ≤ 1099511627776 → CallsV Try.prog v [.slice A ks.length c] w fun v w' => ∃ A' c', v = .agg #[.int .i64 (actV ks t).x.kind, .string (actV ks t).x.name, .int .i64 (actV ks t).x.tok, .slice A' (actV ks t).kids.length c'] ∧ Holds w [NX (krTr fNd) w T (actV ks t) [.int .i64 (actV ks t).x.kind, .string (actV ks t).x.name, .int .i64 (actV ks t).x.tok, .slice A' (actV ks t).kids.length c']] w'

set_option maxHeartbeats 1600000 in
set_option maxRecDepth 100000 in
theorem mk1_calls {w : World} {T : Nat → Prop} {A : Option Addr} {b c : Nat} {ks : List Nd} {t : Ac} (hk : t.x.kind = 1) (ha : 0 ≤ t.x.at_ ∧ t.x.at_ < ks.length) (hb : ∀ j u, ([.int .i64 t.x.kind, .int .i64 t.x.at_, .string t.x.name] : List Value)[j]? = some u → w.cell? ⟨b, j, none⟩ = some u) (hks : (RdC (krTr fNd) (fun p v => T p.block ∧ w.cell? p = some v) A ks)) :
    Calls Try.prog 64 #[.slice A ks.length c, .pointer (some ⟨b, 0, none⟩)] w fun e w' => ∃ v, e = .returned v ∧ ∃ A' c', v = .agg #[.int .i64 (actV ks t).x.kind, .string (actV ks t).x.name, .int .i64 (actV ks t).x.tok, .slice A' (actV ks t).kids.length c'] ∧ Holds w [NX (krTr fNd) w T (actV ks t) [.int .i64 (actV ks t).x.kind, .string (actV ks t).x.name, .int .i64 (actV ks t).x.tok, .slice A' (actV ks t).kids.length c']] w' := by
  rw [actV_pick hk]
  obtain ⟨B, c2, hc8_, hl8_, hR8_⟩ := hks.atTr nd0 ha.1 ha.2
  replace hc8_ := fun q_ u_ hu_ => (hc8_ q_ u_ hu_).2
  refine calls_of Try.func64 rfl Try.ntmps64 rfl ?_
  have H := Holds.start w
  refine wcR ?_
  refine wl_alloc (cs := [.int .i64 0, .string ⟨#[]⟩, .int .i64 0, .slice none 0 0]) H rfl zv24 rfl ?_
  intro b3 w1 hb3 H2
  refine wl_nil ?_
  refine wcR ?_
  refine wM ?_
  refine wV (v_fb (o2 := 1) fa69_1 rfl rfl) ?_
  refine wV (v_load one3 rfl (H2.cell (hb 1 _ rfl))) ?_
  refine wV (v_idx Try.underlying22 sz24 hks.ad rfl rfl (by omega) (by omega)) ?_
  skip
  refine wV (v_loadN (cs := [.int .i64 (ks.getD t.x.at_.toNat nd0).x.kind, .string (ks.getD t.x.at_.toNat nd0).x.name, .int .i64 (ks.getD t.x.at_.toNat nd0).x.tok, .slice B (ks.getD t.x.at_.toNat nd0).kids.length c2]) agg24 rfl rfl (fun q_ u_ hu_ => H2.cell (hc8_ q_ u_ hu_))) ?_
  refine wl_store (vs := [_, _, _, _]) H2 (by repeat constructor) sz24 rfl rfl rfl rfl rfl (by (repeat constructor)) ?_
  intro w3 H4 hw3
  refine wl_nil ?_
  refine wc_ret ?_
  exact ⟨_, resc rfl rfl (run_loadVarN agg24 rfl (H4.ats (by repeat constructor))), B, c2, rfl, (H4.pure (A := NX (krTr fNd) w T (ks.getD t.x.at_.toNat nd0) [.int .i64 (ks.getD t.x.at_.toNat nd0).x.kind, .string (ks.getD t.x.at_.toNat nd0).x.name, .int .i64 (ks.getD t.x.at_.toNat nd0).x.tok, .slice B (ks.getD t.x.at_.toNat nd0).kids.length c2]) (Tr.R.mono (fun p v hc => .inl hc) _ _ hR8_)).pm (by repeat constructor)⟩

set_option maxHeartbeats 1600000 in
set_option maxRecDepth 100000 in
theorem mk2_calls {w : World} {T : Nat → Prop} {A : Option Addr} {b c : Nat} {ks : List Nd} {t : Ac} (hk : t.x.kind = 3) (hb : ∀ j u, ([.int .i64 t.x.kind, .int .i64 t.x.at_, .string t.x.name] : List Value)[j]? = some u → w.cell? ⟨b, j, none⟩ = some u) :
    Calls Try.prog 65 #[.slice A ks.length c, .pointer (some ⟨b, 0, none⟩)] w fun e w' => ∃ v, e = .returned v ∧ ∃ A' c', v = .agg #[.int .i64 (actV ks t).x.kind, .string (actV ks t).x.name, .int .i64 (actV ks t).x.tok, .slice A' (actV ks t).kids.length c'] ∧ Holds w [NX (krTr fNd) w T (actV ks t) [.int .i64 (actV ks t).x.kind, .string (actV ks t).x.name, .int .i64 (actV ks t).x.tok, .slice A' (actV ks t).kids.length c']] w' := by
  rw [actV_text hk]
  refine calls_of Try.func65 rfl Try.ntmps65 rfl ?_
  have H := Holds.start w
  refine wcR ?_
  refine wl_alloc (cs := [.int .i64 0, .string ⟨#[]⟩, .int .i64 0, .slice none 0 0]) H rfl zv24 rfl ?_
  intro b3 w1 hb3 H2
  refine wl_nil ?_
  refine wcR ?_
  refine wV (v_fb (o2 := 2) fa69_2 rfl rfl) ?_
  refine wV (v_load one9 rfl (H2.cell (hb 2 _ rfl))) ?_
  refine wV (v_bld ba24 rfl (by repeat constructor)) ?_
  refine wl_store (vs := [_, _, _, _]) H2 (by repeat constructor) sz24 rfl rfl rfl rfl rfl (by (repeat constructor)) ?_
  intro w3 H4 hw3
  refine wl_nil ?_
  refine wc_ret ?_
  exact ⟨_, resc rfl rfl (run_loadVarN agg24 rfl (H4.ats (by repeat constructor))), none, 0, rfl, (H4.nxLeaf (f := fNd) ⟨2, t.x.name, 0⟩).pm (by repeat constructor)⟩

set_option maxHeartbeats 1600000 in
set_option maxRecDepth 100000 in
theorem mk4_calls {w : World} {T : Nat → Prop} {A : Option Addr} {c : Nat} {ks : List Nd} {t : Ac} (h1 : t.x.kind ≠ 1) (h2 : t.x.kind ≠ 2) (h3 : t.x.kind ≠ 3) :
    Calls Try.prog 67 #[.slice A ks.length c] w fun e w' => ∃ v, e = .returned v ∧ ∃ A' c', v = .agg #[.int .i64 (actV ks t).x.kind, .string (actV ks t).x.name, .int .i64 (actV ks t).x.tok, .slice A' (actV ks t).kids.length c'] ∧ Holds w [NX (krTr fNd) w T (actV ks t) [.int .i64 (actV ks t).x.kind, .string (actV ks t).x.name, .int .i64 (actV ks t).x.tok, .slice A' (actV ks t).kids.length c']] w' := by
  rw [actV_none h1 h2 h3]
  refine calls_of Try.func67 rfl Try.ntmps67 rfl ?_
  have H := Holds.start w
  refine wcR ?_
  refine wl_alloc (cs := [.int .i64 0, .string ⟨#[]⟩, .int .i64 0, .slice none 0 0]) H rfl zv24 rfl ?_
  intro b2 w1 hb2 H2
  refine wl_nil ?_
  refine wcR ?_
  refine wV (v_bld ba24 rfl (by repeat constructor)) ?_
  refine wl_store (vs := [_, _, _, _]) H2 (by repeat constructor) sz24 rfl rfl rfl rfl rfl (by (repeat constructor)) ?_
  intro w3 H4 hw3
  refine wl_nil ?_
  refine wc_ret ?_
  exact ⟨_, resc rfl rfl (run_loadVarN agg24 rfl (H4.ats (by repeat constructor))), none, 0, rfl, (H4.nxLeaf (f := fNd) ⟨0, ⟨#[]⟩, 0⟩).pm (by repeat constructor)⟩

set_option maxHeartbeats 3200000 in
set_option maxRecDepth 100000 in
theorem mk3_calls {w : World} {T : Nat → Prop} {A Al : Option Addr} {b bl c cl : Nat} {ks : List Nd} {t : Ac} (hk : t.x.kind = 2) (hb : ∀ j u, ([.int .i64 t.x.kind, .int .i64 t.x.at_, .string t.x.name] : List Value)[j]? = some u → w.cell? ⟨b, j, none⟩ = some u) (hbl : ∀ j u, ([.slice Al t.kids.length cl] : List Value)[j]? = some u → w.cell? ⟨bl, j, none⟩ = some u) (hla : 0 < t.kids.length → Al = some (adr Al)) (hls : Fc.Ks (atW w) t.kids (adr Al) 0) (hall : Tr.Alls (nodeOk ks.length) t.kids) (hcn : t.cnt ≤ 1099511627776) (hks : (RdC (krTr fNd) (fun p v => T p.block ∧ w.cell? p = some v) A ks)) (hT : ∀ k, T k → k < w.heap.size) (ih : ∀ t' ∈ t.kids, FcOk t') :
    Calls Try.prog 66 #[.slice A ks.length c, .pointer (some ⟨b, 0, none⟩), .pointer (some ⟨bl, 0, none⟩)] w fun e w' => ∃ v, e = .returned v ∧ ∃ A' c', v = .agg #[.int .i64 (actV ks t).x.kind, .string (actV ks t).x.name, .int .i64 (actV ks t).x.tok, .slice A' (actV ks t).kids.length c'] ∧ Holds w [NX (krTr fNd) w T (actV ks t) [.int .i64 (actV ks t).x.kind, .string (actV ks t).x.name, .int .i64 (actV ks t).x.tok, .slice A' (actV ks t).kids.length c']] w' := by
  rw [actV_node hk]
  have hcnt := Tr.cnt_eq t
  have hkl := Tr.cnts_len t.kids
  refine calls_of Try.func66 rfl Try.ntmps66 rfl ?_
  have H := Holds.start w
  refine wcR ?_
  refine wl_alloc (cs := [.int .i64 0, .string ⟨#[]⟩, .int .i64 0, .slice none 0 0]) H rfl zv24 rfl ?_
  intro b4 w1 hb4 H2
  refine wl_nil ?_
  refine wcR ?_
  refine wV (v_fb (o2 := 2) fa69_2 rfl rfl) ?_
  refine wV (v_load one9 rfl (H2.cell (hb 2 _ rfl))) ?_
  refine wV (v_bld ba24 rfl (by repeat constructor)) ?_
  refine wl_alloc (cs := [.int .i64 0, .string ⟨#[]⟩, .int .i64 0, .slice none 0 0]) H2 rfl zv24 rfl ?_
  intro b5 w3 hb5 H4
  refine wl_store (vs := [_, _, _, _]) H4 (by repeat constructor) sz24 rfl rfl rfl rfl rfl (by (repeat constructor)) ?_
  intro w5 H6 hw5
  refine wl_nil ?_
  refine wc_seq ?_
  refine wcR ?_
  refine wV (v_load one103 rfl (H6.cell (hbl 0 _ rfl))) ?_
  refine wV (v_len Try.underlying103 rfl) ?_
  refine wM ?_
  refine wl_nil ?_
  refine wc_block ?_
  refine wc_loop (σ := Nat × Option Addr × Nat) (fun s => [(0, .slice A ks.length c), (4, .pointer (some ⟨b4, 0, none⟩)), (5, .pointer (some ⟨b5, 0, none⟩)), (11, .slice Al t.kids.length cl), (12, .int .i64 t.kids.length), (13, .int .i64 s.1)]) (fun s W => s.1 ≤ t.kids.length ∧ Holds w [Blk b5 24 [.int .i64 3, .string t.x.name, .int .i64 0, .slice s.2.1 ((t.kids.take s.1).map (actV ks)).length s.2.2], FRow (krTr fNd) w T 24 (.slice s.2.1 ((t.kids.take s.1).map (actV ks)).length s.2.2) ((t.kids.take s.1).map (actV ks)), Blk b4 24 [.int .i64 0, .string ⟨#[]⟩, .int .i64 0, .slice none 0 0]] W) (fun s => t.kids.length - s.1) (0, none, 0) (sc rfl (sc rfl (sc rfl (sc rfl (sc rfl (sc rfl (sn _))))))) ⟨Nat.zero_le _, (H6.frNil (krTr fNd) w T 24).pm (by repeat constructor)⟩ ?_
  rintro ⟨i, A5, c5⟩ W0 ⟨hi, H⟩
  dsimp only at hi H ⊢
  refine wcR ?_
  refine wV (v_lss rfl rfl) ?_
  refine wl_nil ?_
  refine wc_seq ?_
  refine wc_cond rfl (fun c0 => ?_) (fun c0 => ?_)
  rotate_left
  ·have c0p := oF c0
   have hie : t.kids.take i = t.kids := List.take_of_length_le (by omega)
   rw [hie] at H
   refine wc_exit ?_
   refine wcR ?_
   refine wV (v_loadN agg24 rfl rfl (H.ats (by repeat constructor))) ?_
   refine wl_store (vs := [_, _, _, _]) H (by repeat constructor) sz24 rfl rfl rfl rfl rfl (by (repeat constructor)) ?_
   intro w18 H19 hw18
   refine wl_nil ?_
   refine wc_ret ?_
   exact ⟨_, resc rfl rfl (run_loadVarN agg24 rfl (H19.ats (by repeat constructor))), A5, c5, rfl, ((H19.pm (L' := [FRow (krTr fNd) w T 24 (.slice A5 (t.kids.map (actV ks)).length c5) (t.kids.map (actV ks))]) (by repeat constructor)).frzTr ⟨3, t.x.name, 0⟩).pm (by repeat constructor)⟩
  have c0p := oT c0
  refine wc_skip ?_
  refine wc_seq ?_
  refine wc_block ?_
  refine wcR ?_
  refine wV (v_idx Try.underlying103 sz107 hla rfl rfl (by omega) (by omega)) ?_
  have hin : i < t.kids.length := by omega
  obtain ⟨vf, hf1, hf2⟩ := Fc.Ks.el _ _ _ hls i (t.kids.getD i ac0) (by rw [List.getD_eq_getElem?_getD, List.getElem?_eq_getElem hin]; rfl)
  rw [Nat.zero_add] at hf2
  refine wV (v_load (v := vf) one107 rfl (H.cell hf2)) ?_
  refine wA ?_
  refine wl_nil ?_
  refine wc_tree [0, 1, 2, 3] (fun W => Holds w [Blk b5 24 [.int .i64 3, .string t.x.name, .int .i64 0, .slice A5 ((t.kids.take i).map (actV ks)).length c5], FRow (krTr fNd) w T 24 (.slice A5 ((t.kids.take i).map (actV ks)).length c5) ((t.kids.take i).map (actV ks)), Blk b4 24 [.int .i64 0, .string ⟨#[]⟩, .int .i64 0, .slice none 0 0]] W) mixed ?_
  have Hd := H.drew
  have HSd : Holds w [Blk b5 24 [.int .i64 3, .string t.x.name, .int .i64 0, .slice A5 ((t.kids.take i).map (actV ks)).length c5], FRow (krTr fNd) w T 24 (.slice A5 ((t.kids.take i).map (actV ks)).length c5) ((t.kids.take i).map (actV ks)), Blk b4 24 [.int .i64 0, .string ⟨#[]⟩, .int .i64 0, .slice none 0 0]] _ := Hd.pm (by repeat constructor)
  refine wjV (k := 0) rfl HSd (fun W HW => v_fb (o2 := 3) fa24_3 rfl rfl) ?_
  refine wjV (k := 1) rfl HSd (fun W HW => v_load one22 rfl (HW.at (by repeat constructor) rfl)) ?_
  refine wjV (k := 2) rfl HSd (fun W HW => v_move rfl) ?_
  refine wjV (k := 3) rfl HSd (fun W HW => v_move rfl) ?_
  refine wj_t (k := 4) rfl (by kernel_rfl) ?_
  refine wl_callV rfl rfl rfl (ih _ (getD_mem (z := ac0) hin) _ vf T A c ks (Fc.K.mono (fun p v hc => Hd.cell hc) _ _ hf1) (Tr.Alls_at ac0 hin hall) (hks.mono fun p v hc => ⟨hc.1, Hd.cell hc.2⟩) (fun k hk => Nat.lt_of_lt_of_le (hT k hk) Hd.old.size) (by have h_ := Tr.cnts_succ ac0 t.kids i hin; have h2_ := Tr.cnts_take t.kids (i + 1); omega)) ?_
  rintro _ w8 ⟨Ax, cx, rfl, Hc8⟩
  have H8 := Hd.callN1 hT Hc8
  have HS9 : Holds w [Blk b5 24 [.int .i64 3, .string t.x.name, .int .i64 0, .slice A5 ((t.kids.take i).map (actV ks)).length c5], FRow (krTr fNd) w T 24 (.slice A5 ((t.kids.take i).map (actV ks)).length c5) ((t.kids.take i).map (actV ks)), Blk b4 24 [.int .i64 0, .string ⟨#[]⟩, .int .i64 0, .slice none 0 0]] _ := H8.pm (by repeat constructor)
  refine wl_nil (tn ⟨fun _ => HS9, ?_⟩)
  refine wj_t (k := 5) rfl (by kernel_rfl) ?_
  refine wl_slit (v := .agg #[.int .i64 0, .string ⟨#[]⟩, .int .i64 0, .slice none 0 0]) (z := [.int .i64 0, .string ⟨#[]⟩, .int .i64 0, .slice none 0 0]) (cs := [.int .i64 (actV ks (t.kids.getD i ac0)).x.kind, .string (actV ks (t.kids.getD i ac0)).x.name, .int .i64 (actV ks (t.kids.getD i ac0)).x.tok, .slice Ax (actV ks (t.kids.getD i ac0)).kids.length cx]) (sz := 4) H8 rfl Try.underlying22 sz24 zv24 (by decide) (by decide) (by kernel_rfl) rfl (by repeat constructor) ?_
  intro b22 w10 hb22 H10 hs10
  have HS11 : Holds w [Blk b5 24 [.int .i64 3, .string t.x.name, .int .i64 0, .slice A5 ((t.kids.take i).map (actV ks)).length c5], FRow (krTr fNd) w T 24 (.slice A5 ((t.kids.take i).map (actV ks)).length c5) ((t.kids.take i).map (actV ks)), Blk b4 24 [.int .i64 0, .string ⟨#[]⟩, .int .i64 0, .slice none 0 0]] _ := H10.pm (by repeat constructor)
  refine wl_nil (tn ⟨fun _ => HS11, ?_⟩)
  refine wj_t (k := 6) rfl (by kernel_rfl) ?_
  refine wl_appF (cs := [.int .i64 (actV ks (t.kids.getD i ac0)).x.kind, .string (actV ks (t.kids.getD i ac0)).x.name, .int .i64 (actV ks (t.kids.getD i ac0)).x.tok, .slice Ax (actV ks (t.kids.getD i ac0)).kids.length cx]) (x' := actV ks (t.kids.getD i ac0)) H10 (by repeat constructor) (by repeat constructor) (H10.ats (by repeat constructor)) rfl Try.underlying22 info24 rfl (by decide) rfl rfl (by rw [map_take_len _ hi]; omega) (by decide) ?_
  intro A23 c23 w12 H12 hs12
  rw [← map_succ (actV ks) ac0 hin] at H12 ⊢
  refine wl_nil (tn ⟨fun hlt => absurd hlt (by rw [show allH _ _ _ = true by kernel_rfl]; simp), ?_⟩)
  refine wj_t (k := 7) rfl (by kernel_rfl) ?_
  refine wV (v_fb (o2 := 3) fa24_3 rfl rfl) ?_
  refine wl_nil (tn ⟨fun hlt => absurd hlt (by rw [show allH _ _ _ = true by kernel_rfl]; simp), ?_⟩)
  refine wj_t (k := 8) rfl (by kernel_rfl) ?_
  refine wl_store (vs := [_]) H12 (by repeat constructor) sz22 rfl rfl rfl rfl rfl (by (repeat constructor)) ?_
  intro w15 H16 hw15
  refine wl_nil (tn ⟨fun hlt => absurd hlt (by rw [show allH _ _ _ = true by kernel_rfl]; simp), ?_⟩)
  refine wj_done (by kernel_rfl) ?_
  refine wc_region ?_
  refine wV (v_addi rfl rfl (by omega)) ?_
  refine wM ?_
  refine wl_nil ?_
  exact ⟨(i + 1, A23, c23), (sc rfl (sc rfl (sc rfl (sc rfl (sc rfl (sc rfl (sn _))))))), ⟨by dsimp only; omega, H16.pm (by repeat constructor)⟩, by dsimp only; omega⟩

theorem fc_calls : ∀ t : Ac, FcOk t := Tr.ind fun x kids ih => fun w v T A c ks hv hall hks hT hcn => by
  have hall2 := (Tr.All_eq (.mk x kids)).1 hall
  have hn : nodeOk ks.length x kids.length := hall2.1
  unfold Fc.K at hv
  obtain ⟨b, hb, ⟨h1, rfl⟩ | ⟨h1, rfl⟩ | ⟨h1, bl, Al, cl, rfl, h2, h3, h4⟩ | ⟨⟨h1, h2, h3⟩, rfl⟩⟩ := hv
  · refine ⟨64, [], [.pointer (some ⟨b, 0, none⟩)], rfl, en64, mk1_calls (t := .mk x kids) h1 (by unfold nodeOk at hn; show 0 ≤ x.at_ ∧ x.at_ < _; omega) hb hks⟩
  · refine ⟨65, [], [.pointer (some ⟨b, 0, none⟩)], rfl, en65, mk2_calls (t := .mk x kids) h1 hb⟩
  · refine ⟨66, [], [.pointer (some ⟨b, 0, none⟩), .pointer (some ⟨bl, 0, none⟩)], rfl, en66, mk3_calls (t := .mk x kids) (cl := cl) h1 hb (fun j u hu => ?_) h3 h4 hall2.2 hcn hks hT ih⟩
    cases j with
    | zero =>
      simp only [List.getElem?_cons_zero, Option.some.injEq] at hu
      subst hu
      exact h2
    | succ j => simp at hu
  · exact ⟨67, [], [], rfl, en67, mk4_calls (t := .mk x kids) h1 h2 h3⟩
end Go.Proofs.Ytgdemplcpcacaaa.MakeW

/-! Closures are made of actions. -/
namespace Go.Proofs.Ytgdemplcpcacaaa.MakerW
open Go Go.RowKit Go.Proofs.YtgdemplcpcacaaaFx Go.Proofs.Ytgdemplcpcacaaa.MakeW
theorem agg69 : Agg Try.prog 69 4 := agg_of Try.underlying69 (by kernel_rfl)
theorem en38 : Enters Try.prog 38 := enters Try.func38 (by kernel_rfl) rfl
theorem fa69_0 : FieldAt Try.prog 69 0 0 := field_at (sz := 0) Try.underlying69 rfl (by kernel_rfl) rfl
theorem fa69_3 : FieldAt Try.prog 69 3 3 := field_at (sz := 0) Try.underlying69 rfl (by kernel_rfl) rfl
theorem info107 : (Try.prog.info? 107).map (fun i => (i.zero, i.size, i.bytes)) = some (some (.nilFunc), 1, 8) := by kernel_rfl
theorem mixed : Try.prog.follows .mixedOrders = true := by kernel_rfl
theorem one103 : One Try.prog 103 := one_of Try.underlying103 rfl (by kernel_rfl)
theorem one3 : One Try.prog 3 := one_of Try.underlying3 rfl (by kernel_rfl)
theorem one67 : One Try.prog 67 := one_of Try.underlying67 rfl (by kernel_rfl)
theorem sz103 : ∀ W, (sizeOf 103).run Try.prog W = .ok 1 W := size_of (by kernel_rfl)
theorem sz107 : ∀ W, (sizeOf 107).run Try.prog W = .ok 1 W := size_of (by kernel_rfl)
theorem sz69 : ∀ W, (sizeOf 69).run Try.prog W = .ok 4 W := size_of (by kernel_rfl)
theorem zv103 : ∀ W, (zeroValue 103).run Try.prog W = .ok (.slice none 0 0) W := zero_of (by kernel_rfl)
theorem zv107 : ∀ W, (zeroValue 107).run Try.prog W = .ok (.nilFunc) W := zero_of (by kernel_rfl)
theorem zv69 : ∀ W, (zeroValue 69).run Try.prog W = .ok (.agg #[.int .i64 0, .int .i64 0, .string ⟨#[]⟩, .slice none 0 0]) W := zero_of (by kernel_rfl)

section
variable {W : World} {T S : Nat → Prop} {w : World} {b bl e e3 k : Nat} {B : Option Addr} {t : Ac}
theorem fc_box (h : (Blk b e [.int .i64 t.x.kind, .int .i64 t.x.at_, .string t.x.name, .slice B t.kids.length k]).p w S) : ∀ j u, ([.int .i64 t.x.kind, .int .i64 t.x.at_, .string t.x.name] : List Value)[j]? = some u → CC W T S w ⟨b, j, none⟩ u := fun j u hu => .inr ⟨h.1, by
  rw [cell_blk h.2]
  match j, hu with
  | 0, hu => exact hu
  | 1, hu => exact hu
  | 2, hu => exact hu
  | j + 3, hu => simp at hu⟩
theorem fc_pick (hk : t.x.kind = 1) (h : (Blk b e [.int .i64 t.x.kind, .int .i64 t.x.at_, .string t.x.name, .slice B t.kids.length k]).p w S) : (NX krFc W T t [.func (.func 64) #[] #[.pointer (some ⟨b, 0, none⟩)]]).p w S := ⟨_, rfl, by
  have hb := fc_box (W := W) (T := T) h
  cases t with
  | mk x kids => exact ⟨b, hb, .inl ⟨hk, rfl⟩⟩⟩
theorem fc_text (hk : t.x.kind = 3) (h : (Blk b e [.int .i64 t.x.kind, .int .i64 t.x.at_, .string t.x.name, .slice B t.kids.length k]).p w S) : (NX krFc W T t [.func (.func 65) #[] #[.pointer (some ⟨b, 0, none⟩)]]).p w S := ⟨_, rfl, by
  have hb := fc_box (W := W) (T := T) h
  cases t with
  | mk x kids => exact ⟨b, hb, .inr (.inl ⟨hk, rfl⟩)⟩⟩
theorem fc_none (h1 : t.x.kind ≠ 1) (h2 : t.x.kind ≠ 2) (h3 : t.x.kind ≠ 3) (h : (Blk b e [.int .i64 t.x.kind, .int .i64 t.x.at_, .string t.x.name, .slice B t.kids.length k]).p w S) : (NX krFc W T t [.func (.func 67) #[] #[]]).p w S := ⟨_, rfl, by
  have hb := fc_box (W := W) (T := T) h
  cases t with
  | mk x kids => exact ⟨b, hb, .inr (.inr (.inr ⟨⟨h1, h2, h3⟩, rfl⟩))⟩⟩
theorem fc_node {A : Option Addr} {c : Nat} {e4 : Nat} (hk : t.x.kind = 2) (h : HL [Blk bl e3 [.slice A t.kids.length c], FRow krFc W T e4 (.slice A t.kids.length c) t.kids, Blk b e [.int .i64 t.x.kind, .int .i64 t.x.at_, .string t.x.name, .slice B t.kids.length k]] w S) : (NX krFc W T t [.func (.func 66) #[] #[.pointer (some ⟨b, 0, none⟩), .pointer (some ⟨bl, 0, none⟩)]]).p w S := ⟨_, rfl, by
  obtain ⟨S1, S2, a1, a2, a3, a4, S3, S4, b1, b2, b3, b4, S5, S6, d1, d2, d3, d4, _⟩ := h
  have hb := fc_box (W := W) (T := T) d4
  obtain ⟨A', c', he, _, h3⟩ := FRow.known b4
  injection he with e1 _ e5
  subst e1 e5
  have hr := h3.mono (C' := CC W T S w) (fun p v => CC.sub (fun q hq => a2 q (b1 q hq)) p v)
  have hl : CC W T S w ⟨bl, 0, none⟩ (.slice A t.kids.length c) := .inr ⟨a1 _ a4.1, by rw [cell_blk a4.2]; rfl⟩
  cases t with
  | mk x kids => exact ⟨b, fun j u hu => CC.sub (fun q hq => a2 q (b2 q (d1 q hq))) _ _ (hb j u hu), .inr (.inr (.inl ⟨hk, bl, A, c, rfl, hl, hr.ad, fc_row hr⟩))⟩⟩
end
def MakerOk (t : Ac) : Prop := ∀ (w : World) (B : Option Addr) (k : Nat) (hk : t.kids.length ≤ k) (hr : Rd (kTr fAc) w B t.kids) (hcn : t.cnt ≤ 1099511627776), Calls Try.prog 38 #[.agg #[.int .i64 t.x.kind, .int .i64 t.x.at_, .string t.x.name, .slice B t.kids.length k]] w fun e w' => ∃ v, e = .returned v ∧ Holds w [NX krFc w no t [v]] w'

set_option maxHeartbeats 3200000 in
set_option maxRecDepth 100000 in
theorem maker_step {w : World} {B : Option Addr} {k : Nat} {t : Ac} (hk : t.kids.length ≤ k) (hr : Rd (kTr fAc) w B t.kids) (hcn : t.cnt ≤ 1099511627776) (ih : ∀ t' ∈ t.kids, MakerOk t') : Calls Try.prog 38 #[.agg #[.int .i64 t.x.kind, .int .i64 t.x.at_, .string t.x.name, .slice B t.kids.length k]] w fun e w' => ∃ v, e = .returned v ∧ Holds w [NX krFc w no t [v]] w' := by
  have hcnt := Tr.cnt_eq t
  have hkl := Tr.cnts_len t.kids
  refine calls_of Try.func38 rfl Try.ntmps38 rfl ?_
  have H := Holds.start w
  refine wcR ?_
  refine wl_box (cs := [_, _, _, _]) H rfl rfl rfl ?_
  intro b1 w1 hb1 H2
  refine wA ?_
  refine wl_nil ?_
  refine wc_seq ?_
  refine wcR ?_
  refine wV (v_fb (o2 := 0) fa69_0 rfl rfl) ?_
  refine wV (v_load one3 rfl (H2.at (by repeat constructor) rfl)) ?_
  refine wl_nil ?_
  refine wc_block ?_
  refine wcR ?_
  refine wV (v_eql rfl rfl) ?_
  refine wA ?_
  refine wl_nil ?_
  refine wc_cond rfl (fun c0 => ?_) (fun c0 => ?_)
  ·have c0p := oT c0
   refine wcR ?_
   refine wV (v_fn (vf := []) (vc := [.pointer (some ⟨b1, 0, none⟩)]) rfl rfl) ?_
   refine wA ?_
   refine wl_nil ?_
   refine wc_ret ?_
   first
     | (have hk_ := c0p
        exact ⟨_, res1 rfl rfl, Holds.head_imp (fun S h => fc_pick c0p h) H2⟩)
     | (have hk_ := c1p
        exact ⟨_, res1 rfl rfl, Holds.head_imp (fun S h => fc_text c1p h) H2⟩)
     | exact ⟨_, res1 rfl rfl, (H2.pm (L' := [Blk b3 103 [.slice Az t.kids.length cz], FRow krFc w no 107 (.slice Az t.kids.length cz) t.kids, Blk b1 69 [.int .i64 t.x.kind, .int .i64 t.x.at_, .string t.x.name, .slice B t.kids.length k]] ++ []) (by repeat constructor)).closed fun S h => fc_node c2p h⟩
     | exact ⟨_, res1 rfl rfl, Holds.head_imp (fun S h => fc_none (by omega) (by omega) (by omega) h) H2⟩
  have c0p := oF c0
  refine wcR ?_
  refine wV (v_eql rfl rfl) ?_
  refine wA ?_
  refine wl_nil ?_
  refine wc_cond rfl (fun c1 => ?_) (fun c1 => ?_)
  ·have c1p := oT c1
   refine wcR ?_
   refine wV (v_fn (vf := []) (vc := [.pointer (some ⟨b1, 0, none⟩)]) rfl rfl) ?_
   refine wA ?_
   refine wl_nil ?_
   refine wc_ret ?_
   first
     | (have hk_ := c0p
        exact ⟨_, res1 rfl rfl, Holds.head_imp (fun S h => fc_pick c0p h) H2⟩)
     | (have hk_ := c1p
        exact ⟨_, res1 rfl rfl, Holds.head_imp (fun S h => fc_text c1p h) H2⟩)
     | exact ⟨_, res1 rfl rfl, (H2.pm (L' := [Blk b3 103 [.slice Az t.kids.length cz], FRow krFc w no 107 (.slice Az t.kids.length cz) t.kids, Blk b1 69 [.int .i64 t.x.kind, .int .i64 t.x.at_, .string t.x.name, .slice B t.kids.length k]] ++ []) (by repeat constructor)).closed fun S h => fc_node c2p h⟩
     | exact ⟨_, res1 rfl rfl, Holds.head_imp (fun S h => fc_none (by omega) (by omega) (by omega) h) H2⟩
  have c1p := oF c1
  refine wcR ?_
  refine wV (v_eql rfl rfl) ?_
  refine wA ?_
  refine wl_nil ?_
  refine wc_cond rfl (fun c2 => ?_) (fun c2 => ?_)
  rotate_left
  ·have c2p := oF c2
   refine wc_skip ?_
   refine wcR ?_
   refine wA ?_
   refine wl_nil ?_
   refine wc_ret ?_
   first
     | (have hk_ := c0p
        exact ⟨_, res1 rfl rfl, Holds.head_imp (fun S h => fc_pick c0p h) H2⟩)
     | (have hk_ := c1p
        exact ⟨_, res1 rfl rfl, Holds.head_imp (fun S h => fc_text c1p h) H2⟩)
     | exact ⟨_, res1 rfl rfl, (H2.pm (L' := [Blk b3 103 [.slice Az t.kids.length cz], FRow krFc w no 107 (.slice Az t.kids.length cz) t.kids, Blk b1 69 [.int .i64 t.x.kind, .int .i64 t.x.at_, .string t.x.name, .slice B t.kids.length k]] ++ []) (by repeat constructor)).closed fun S h => fc_node c2p h⟩
     | exact ⟨_, res1 rfl rfl, Holds.head_imp (fun S h => fc_none (by omega) (by omega) (by omega) h) H2⟩
  have c2p := oT c2
  refine wcR ?_
  refine wl_alloc (cs := [.slice none 0 0]) H2 rfl zv103 rfl ?_
  intro b3 w5 hb3 H6
  refine wl_nil ?_
  refine wc_seq ?_
  refine wcR ?_
  refine wV (v_fb (o2 := 3) fa69_3 rfl rfl) ?_
  refine wV (v_load one67 rfl (H6.at (by repeat constructor) rfl)) ?_
  refine wV (v_len Try.underlying67 rfl) ?_
  refine wM ?_
  refine wl_nil ?_
  refine wc_block ?_
  refine wc_loop (σ := Nat × Option Addr × Nat) (fun s => [(1, .pointer (some ⟨b1, 0, none⟩)), (3, .pointer (some ⟨b3, 0, none⟩)), (17, .slice B t.kids.length k), (18, .int .i64 t.kids.length), (19, .int .i64 s.1)]) (fun s W => s.1 ≤ t.kids.length ∧ Holds w [Blk b3 103 [.slice s.2.1 (t.kids.take s.1).length s.2.2], FRow krFc w no 107 (.slice s.2.1 (t.kids.take s.1).length s.2.2) (t.kids.take s.1), Blk b1 69 [.int .i64 t.x.kind, .int .i64 t.x.at_, .string t.x.name, .slice B t.kids.length k]] W) (fun s => t.kids.length - s.1) (0, none, 0) (sc rfl (sc rfl (sc rfl (sc rfl (sc rfl (sn _)))))) ⟨Nat.zero_le _, (H6.frNil krFc w no 107).pm (by repeat constructor)⟩ ?_
  rintro ⟨i, Az, cz⟩ W0 ⟨hi, H⟩
  dsimp only at hi H ⊢
  refine wcR ?_
  refine wV (v_lss rfl rfl) ?_
  refine wl_nil ?_
  refine wc_seq ?_
  refine wc_cond rfl (fun c3 => ?_) (fun c3 => ?_)
  rotate_left
  ·have c3p := oF c3
   have hie : t.kids.take i = t.kids := List.take_of_length_le (by omega)
   rw [hie] at H
   refine wc_exit ?_
   refine wcR ?_
   refine wV (v_fn (vf := []) (vc := [.pointer (some ⟨b1, 0, none⟩), .pointer (some ⟨b3, 0, none⟩)]) rfl rfl) ?_
   refine wA ?_
   refine wl_nil ?_
   refine wc_ret ?_
   first
     | (have hk_ := c0p
        exact ⟨_, res1 rfl rfl, Holds.head_imp (fun S h => fc_pick c0p h) H⟩)
     | (have hk_ := c1p
        exact ⟨_, res1 rfl rfl, Holds.head_imp (fun S h => fc_text c1p h) H⟩)
     | exact ⟨_, res1 rfl rfl, (H.pm (L' := [Blk b3 103 [.slice Az t.kids.length cz], FRow krFc w no 107 (.slice Az t.kids.length cz) t.kids, Blk b1 69 [.int .i64 t.x.kind, .int .i64 t.x.at_, .string t.x.name, .slice B t.kids.length k]] ++ []) (by repeat constructor)).closed fun S h => fc_node c2p h⟩
     | exact ⟨_, res1 rfl rfl, Holds.head_imp (fun S h => fc_none (by omega) (by omega) (by omega) h) H⟩
  have c3p := oT c3
  have hin : i < t.kids.length := by omega
  refine wc_skip ?_
  refine wc_seq ?_
  refine wc_block ?_
  refine wcR ?_
  refine wV (v_idx Try.underlying67 sz69 hr.ad rfl rfl (by omega) (by omega)) ?_
  obtain ⟨B22_, k22_, hc22_, hl22_, hr22_⟩ := hr.atTr ac0 (i := i) (by omega)
  refine wV (v_loadN (cs := [.int .i64 (t.kids.getD i ac0).x.kind, .int .i64 (t.kids.getD i ac0).x.at_, .string (t.kids.getD i ac0).x.name, .slice B22_ (t.kids.getD i ac0).kids.length k22_]) agg69 rfl rfl (fun q_ u_ hu_ => H.cell (hc22_ q_ u_ hu_))) ?_
  refine wl_alloc (cs := [.int .i64 0, .int .i64 0, .string ⟨#[]⟩, .slice none 0 0]) H rfl zv69 rfl ?_
  intro b5 w8 hb5 H9
  refine wl_store (vs := [_, _, _, _]) H9 (by repeat constructor) sz69 rfl rfl rfl rfl rfl (by (repeat constructor)) ?_
  intro w10 H11 hw10
  refine wl_nil ?_
  refine wc_tree [0, 1] (fun W => Holds w [Blk b3 103 [.slice Az (t.kids.take i).length cz], FRow krFc w no 107 (.slice Az (t.kids.take i).length cz) (t.kids.take i), Blk b5 69 [.int .i64 (t.kids.getD i ac0).x.kind, .int .i64 (t.kids.getD i ac0).x.at_, .string (t.kids.getD i ac0).x.name, .slice B22_ (t.kids.getD i ac0).kids.length k22_], Blk b1 69 [.int .i64 t.x.kind, .int .i64 t.x.at_, .string t.x.name, .slice B t.kids.length k]] W) mixed ?_
  have Hd := H11.drew
  have HSd : Holds w [Blk b3 103 [.slice Az (t.kids.take i).length cz], FRow krFc w no 107 (.slice Az (t.kids.take i).length cz) (t.kids.take i), Blk b5 69 [.int .i64 (t.kids.getD i ac0).x.kind, .int .i64 (t.kids.getD i ac0).x.at_, .string (t.kids.getD i ac0).x.name, .slice B22_ (t.kids.getD i ac0).kids.length k22_], Blk b1 69 [.int .i64 t.x.kind, .int .i64 t.x.at_, .string t.x.name, .slice B t.kids.length k]] _ := Hd.pm (by repeat constructor)
  refine wjV (k := 0) rfl HSd (fun W HW => v_load one103 rfl (HW.at (by repeat constructor) rfl)) ?_
  refine wjV (k := 1) rfl HSd (fun W HW => v_loadN agg69 rfl rfl (HW.ats (by repeat constructor))) ?_
  refine wj_t (k := 2) rfl (by kernel_rfl) ?_
  refine wl_call en38 rfl rfl (ih _ (getD_mem (z := ac0) hin) _ _ _ hl22_ (hr22_.below Hd.old) (by have h_ := Tr.cnts_succ ac0 t.kids i hin; have h2_ := Tr.cnts_take t.kids (i + 1); omega)) ?_
  rintro vf w12 Hc
  have H13 := Hd.callN1 (fun _ h_ => h_.elim) Hc
  have hvf1 : vf.oneCell' = true := by
    obtain ⟨_, _, v_, hv_, hk_⟩ := Hc.get (A := NX krFc _ no (t.kids.getD i ac0) [vf]) (.here _ _ _)
    cases hv_
    exact hk_.one
  have HS14 : Holds w [Blk b3 103 [.slice Az (t.kids.take i).length cz], FRow krFc w no 107 (.slice Az (t.kids.take i).length cz) (t.kids.take i), Blk b5 69 [.int .i64 (t.kids.getD i ac0).x.kind, .int .i64 (t.kids.getD i ac0).x.at_, .string (t.kids.getD i ac0).x.name, .slice B22_ (t.kids.getD i ac0).kids.length k22_], Blk b1 69 [.int .i64 t.x.kind, .int .i64 t.x.at_, .string t.x.name, .slice B t.kids.length k]] _ := H13.pm (by repeat constructor)
  refine wl_nil (tn ⟨fun _ => HS14, ?_⟩)
  refine wj_t (k := 3) rfl (by kernel_rfl) ?_
  refine wl_slit (v := .nilFunc) (z := [.nilFunc]) (cs := [vf]) (sz := 1) H13 rfl Try.underlying103 sz107 zv107 (by decide) (by decide) (by kernel_rfl) rfl (.cons (vs := [vf]) rfl (cells_one hvf1) rfl (.here _ (.nil _)) (.nil _)) ?_
  intro b26 w15 hb26 H15 hs15
  have HS16 : Holds w [Blk b3 103 [.slice Az (t.kids.take i).length cz], FRow krFc w no 107 (.slice Az (t.kids.take i).length cz) (t.kids.take i), Blk b5 69 [.int .i64 (t.kids.getD i ac0).x.kind, .int .i64 (t.kids.getD i ac0).x.at_, .string (t.kids.getD i ac0).x.name, .slice B22_ (t.kids.getD i ac0).kids.length k22_], Blk b1 69 [.int .i64 t.x.kind, .int .i64 t.x.at_, .string t.x.name, .slice B t.kids.length k]] _ := H15.pm (by repeat constructor)
  refine wl_nil (tn ⟨fun _ => HS16, ?_⟩)
  refine wj_t (k := 4) rfl (by kernel_rfl) ?_
  refine wl_appF (d := krFc) (cs := [vf]) (x' := (t.kids.getD i ac0)) H15 (by repeat constructor) (by repeat constructor) (H15.ats (by repeat constructor)) rfl Try.underlying103 info107 rfl (by decide) rfl rfl (by rw [List.length_take]; omega) (by decide) ?_
  intro A27 c27 w17 H17 hs17
  rw [← take_succ' ac0 hin] at H17 ⊢
  refine wl_nil (tn ⟨fun hlt => absurd hlt (by rw [show allH _ _ _ = true by kernel_rfl]; simp), ?_⟩)
  refine wj_t (k := 5) rfl (by kernel_rfl) ?_
  refine wl_store (vs := [_]) H17 (by repeat constructor) sz103 rfl rfl rfl rfl rfl (by (repeat constructor)) ?_
  intro w19 H20 hw19
  refine wl_nil (tn ⟨fun hlt => absurd hlt (by rw [show allH _ _ _ = true by kernel_rfl]; simp), ?_⟩)
  refine wj_done (by kernel_rfl) ?_
  refine wc_region ?_
  refine wV (v_addi rfl rfl (by omega)) ?_
  refine wM ?_
  refine wl_nil ?_
  exact ⟨(i + 1, A27, c27), (sc rfl (sc rfl (sc rfl (sc rfl (sc rfl (sn _)))))), ⟨by dsimp only; omega, H20.pm (by repeat constructor)⟩, by dsimp only; omega⟩

theorem maker_calls : ∀ t : Ac, MakerOk t := Tr.ind fun x kids ih => fun w B k hk hr hcn => maker_step (t := .mk x kids) hk hr hcn ih
end Go.Proofs.Ytgdemplcpcacaaa.MakerW

/-! Values: what is left of so many parts, copies, marks, what a derivation's actions make. -/
namespace Go.Proofs.Ytgdemplcpcacaaa.ValueW
open Go Go.RowKit Go.Proofs.YtgdemplcpcacaaaFx Go.Proofs.Ytgdemplcpcacaaa.MakeW Go.Proofs.Ytgdemplcpcacaaa.MakerW
theorem agg24 : Agg Try.prog 24 4 := agg_of Try.underlying24 (by kernel_rfl)
theorem agg50 : Agg Try.prog 50 3 := agg_of Try.underlying50 (by kernel_rfl)
theorem en36 : Enters Try.prog 36 := enters Try.func36 (by kernel_rfl) rfl
theorem en40 : Enters Try.prog 40 := enters Try.func40 (by kernel_rfl) rfl
theorem en41 : Enters Try.prog 41 := enters Try.func41 (by kernel_rfl) rfl
theorem fa24_3 : FieldAt Try.prog 24 3 3 := field_at (sz := 0) Try.underlying24 rfl (by kernel_rfl) rfl
theorem fa50_0 : FieldAt Try.prog 50 0 0 := field_at (sz := 0) Try.underlying50 rfl (by kernel_rfl) rfl
theorem fa50_2 : FieldAt Try.prog 50 2 2 := field_at (sz := 0) Try.underlying50 rfl (by kernel_rfl) rfl
theorem info24 : (Try.prog.info? 24).map (fun i => (i.zero, i.size, i.bytes)) = some (some (.agg #[.int .i64 0, .string ⟨#[]⟩, .int .i64 0, .slice none 0 0]), 4, 56) := by kernel_rfl
theorem mixed : Try.prog.follows .mixedOrders = true := by kernel_rfl
theorem one22 : One Try.prog 22 := one_of Try.underlying22 rfl (by kernel_rfl)
theorem one3 : One Try.prog 3 := one_of Try.underlying3 rfl (by kernel_rfl)
theorem one48 : One Try.prog 48 := one_of Try.underlying48 rfl (by kernel_rfl)
theorem sz22 : ∀ W, (sizeOf 22).run Try.prog W = .ok 1 W := size_of (by kernel_rfl)
theorem sz24 : ∀ W, (sizeOf 24).run Try.prog W = .ok 4 W := size_of (by kernel_rfl)
theorem sz50 : ∀ W, (sizeOf 50).run Try.prog W = .ok 3 W := size_of (by kernel_rfl)
theorem zv24 : ∀ W, (zeroValue 24).run Try.prog W = .ok (.agg #[.int .i64 0, .string ⟨#[]⟩, .int .i64 0, .slice none 0 0]) W := zero_of (by kernel_rfl)
theorem zv50 : ∀ W, (zeroValue 50).run Try.prog W = .ok (.agg #[.int .i64 0, .int .i64 0, .slice none 0 0]) W := zero_of (by kernel_rfl)

def LeftOk (t : Nd) : Prop := ∀ (w : World) (B : Option Addr) (k : Nat) (most : Int) (hr : Rd (kTr fNd) w B t.kids) (hn : 0 ≤ most ∧ most ≤ 1099511627776) (hf : t.All few), Calls Try.prog 40 #[.agg #[.int .i64 t.x.kind, .string t.x.name, .int .i64 t.x.tok, .slice B t.kids.length k], .int .i64 most] w fun e w' => ∃ v, e = .returned v ∧ v = .int .i64 (leftN most t) ∧ Holds w [] w'

set_option maxHeartbeats 3200000 in
set_option maxRecDepth 100000 in
theorem left_step {w : World} {B : Option Addr} {k : Nat} {most : Int} {t : Nd} (hr : Rd (kTr fNd) w B t.kids) (hn : 0 ≤ most ∧ most ≤ 1099511627776) (hf : t.All few) (ih : ∀ t' ∈ t.kids, LeftOk t') : Calls Try.prog 40 #[.agg #[.int .i64 t.x.kind, .string t.x.name, .int .i64 t.x.tok, .slice B t.kids.length k], .int .i64 most] w fun e w' => ∃ v, e = .returned v ∧ v = .int .i64 (leftN most t) ∧ Holds w [] w' := by
  obtain ⟨hfk, hfs⟩ := (Tr.All_eq t).1 hf
  have hfk' : t.kids.length ≤ 1099511627776 := hfk
  refine calls_of Try.func40 rfl Try.ntmps40 rfl ?_
  have H := Holds.start w
  refine wcR ?_
  refine wl_box (cs := [_, _, _, _]) H rfl rfl rfl ?_
  intro b2 w1 hb2 H2
  refine wA ?_
  refine wl_nil ?_
  refine wcR ?_
  refine wM ?_
  refine wV (v_subi rfl rfl (by omega)) ?_
  refine wA ?_
  refine wl_nil ?_
  refine wc_seq ?_
  refine wcR ?_
  refine wA ?_
  refine wl_nil ?_
  refine wc_block ?_
  refine wc_loop (σ := Nat × Int) (fun s => [(1, .int .i64 s.2), (2, .pointer (some ⟨b2, 0, none⟩)), (5, .int .i64 s.1)]) (fun s W => LSt most t s.1 s.2 ∧ Holds w [Blk b2 24 [.int .i64 t.x.kind, .string t.x.name, .int .i64 t.x.tok, .slice B t.kids.length k]] W) (fun s => t.kids.length - s.1) (0, most - 1) (sc rfl (sc rfl (sc rfl (sn _)))) ⟨LSt.start hn.1, H2⟩ ?_
  rintro ⟨i, m⟩ W0 ⟨hp, H⟩
  dsimp only at hp H ⊢
  have hle := hp.le
  have hrg := hp.rng hn.1
  refine wc_seq ?_
  refine wcR ?_
  refine wM ?_
  refine wV (v_fb (o2 := 3) fa24_3 rfl rfl) ?_
  refine wV (v_load one22 rfl (H.at (by repeat constructor) rfl)) ?_
  refine wV (v_len Try.underlying22 rfl) ?_
  refine wV (v_lss rfl rfl) ?_
  refine wM ?_
  refine wl_guard rfl rfl rfl (fun g13 => ?_) (fun g13 => ?_)
  rotate_left
  ·have g13p := oF g13
   refine wF g13 ?_
   refine wV (v_pick_f rfl g13 rfl) ?_
   refine wl_nil ?_
   refine wc_cond_f rfl ?_
   refine wc_exit ?_
   refine wcR ?_
   refine wM ?_
   refine wA ?_
   refine wl_nil ?_
   refine wc_ret ?_
   exact ⟨_, res1 rfl rfl, congrArg (Value.int .i64) (hp.fin (by omega)), H.pm (Pm.nil _)⟩
  have g13p := oT g13
  refine wM ?_
  refine wO g13 ?_
  refine wV (v_geq rfl rfl) ?_
  refine wV (v_pick_t rfl g13 rfl) ?_
  refine wl_nil ?_
  refine wc_cond rfl (fun c0 => ?_) (fun c0 => ?_)
  rotate_left
  ·have c0p := oF c0
   refine wc_exit ?_
   refine wcR ?_
   refine wM ?_
   refine wA ?_
   refine wl_nil ?_
   refine wc_ret ?_
   exact ⟨_, res1 rfl rfl, congrArg (Value.int .i64) (hp.fin (by omega)), H.pm (Pm.nil _)⟩
  have c0p := oT c0
  refine wc_skip ?_
  refine wc_seq ?_
  refine wc_block ?_
  refine wc_region ?_
  refine wV (v_fb (o2 := 3) fa24_3 rfl rfl) ?_
  refine wV (v_load one22 rfl (H.at (by repeat constructor) rfl)) ?_
  refine wM ?_
  refine wV (v_idx Try.underlying22 sz24 hr.ad rfl rfl (by omega) (by omega)) ?_
  obtain ⟨B23_, k23_, hc23_, hl23_, hr23_⟩ := hr.atTr nd0 (i := i) (by omega)
  refine wV (v_loadN (cs := [.int .i64 (t.kids.getD i nd0).x.kind, .string (t.kids.getD i nd0).x.name, .int .i64 (t.kids.getD i nd0).x.tok, .slice B23_ (t.kids.getD i nd0).kids.length k23_]) agg24 rfl rfl (fun q_ u_ hu_ => H.cell (hc23_ q_ u_ hu_))) ?_
  refine wM ?_
  refine wl_call en40 rfl rfl (ih _ (getD_mem (z := nd0) (show i < t.kids.length by omega)) _ _ _ m (hr23_.below H.old) (by omega) (Tr.Alls_at nd0 (by omega) hfs)) ?_
  rintro _ w4 ⟨rfl, Hc⟩
  have H5 := H.call0 Hc
  refine wA ?_
  refine wl_nil ?_
  refine wc_region ?_
  refine wM ?_
  refine wV (v_addi rfl rfl (by omega)) ?_
  refine wA ?_
  refine wl_nil ?_
  exact ⟨(i + 1, _), (sc rfl (sc rfl (sc rfl (sn _)))), ⟨hp.next (by omega) (by omega), H5.pm (by repeat constructor)⟩, by dsimp only; omega⟩

theorem left_calls : ∀ t : Nd, LeftOk t := Tr.ind fun x kids ih => fun w B k most hr hn hf => left_step (t := .mk x kids) hr hn hf ih

def CopyOk (t : Nd) : Prop := ∀ (w : World) (B : Option Addr) (k : Nat) (hr : Rd (kTr fNd) w B t.kids) (hf : t.All few), Calls Try.prog 41 #[.agg #[.int .i64 t.x.kind, .string t.x.name, .int .i64 t.x.tok, .slice B t.kids.length k]] w fun e w' => ∃ v, e = .returned v ∧ ∃ A c, v = .agg #[.int .i64 t.x.kind, .string t.x.name, .int .i64 t.x.tok, .slice A t.kids.length c] ∧ Holds w [ORow fNd 24 (.slice A t.kids.length c) t.kids] w'

set_option maxHeartbeats 3200000 in
set_option maxRecDepth 100000 in
theorem copied_step {w : World} {B : Option Addr} {k : Nat} {t : Nd} (hr : Rd (kTr fNd) w B t.kids) (hf : t.All few) (ih : ∀ t' ∈ t.kids, CopyOk t') : Calls Try.prog 41 #[.agg #[.int .i64 t.x.kind, .string t.x.name, .int .i64 t.x.tok, .slice B t.kids.length k]] w fun e w' => ∃ v, e = .returned v ∧ ∃ A c, v = .agg #[.int .i64 t.x.kind, .string t.x.name, .int .i64 t.x.tok, .slice A t.kids.length c] ∧ Holds w [ORow fNd 24 (.slice A t.kids.length c) t.kids] w' := by
  obtain ⟨hfk, hfs⟩ := (Tr.All_eq t).1 hf
  have hfk' : t.kids.length ≤ 1099511627776 := hfk
  refine calls_of Try.func41 rfl Try.ntmps41 rfl ?_
  have H := Holds.start w
  refine wcR ?_
  refine wl_box (cs := [_, _, _, _]) H rfl rfl rfl ?_
  intro b1 w1 hb1 H2
  refine wl_alloc (cs := [.int .i64 0, .string ⟨#[]⟩, .int .i64 0, .slice none 0 0]) H2 rfl zv24 rfl ?_
  intro b2 w3 hb2 H4
  refine wl_nil ?_
  refine wcR ?_
  refine wV (v_loadN agg24 rfl rfl (H4.ats (by repeat constructor))) ?_
  refine wl_alloc (cs := [.int .i64 0, .string ⟨#[]⟩, .int .i64 0, .slice none 0 0]) H4 rfl zv24 rfl ?_
  intro b3 w5 hb3 H6
  refine wl_store (vs := [_, _, _, _]) H6 (by repeat constructor) sz24 rfl rfl rfl rfl rfl (by (repeat constructor)) ?_
  intro w7 H8 hw7
  refine wl_nil ?_
  refine wcR ?_
  refine wV (v_fb (o2 := 3) fa24_3 rfl rfl) ?_
  refine wl_store (vs := [_]) H8 (by repeat constructor) sz22 rfl rfl rfl rfl rfl (by (repeat constructor)) ?_
  intro w9 H10 hw9
  refine wl_nil ?_
  refine wc_seq ?_
  refine wcR ?_
  refine wV (v_fb (o2 := 3) fa24_3 rfl rfl) ?_
  refine wV (v_load one22 rfl (H10.at (by repeat constructor) rfl)) ?_
  refine wV (v_len Try.underlying22 rfl) ?_
  refine wM ?_
  refine wl_nil ?_
  refine wc_block ?_
  refine wc_loop (σ := Nat × Option Addr × Nat) (fun s => [(1, .pointer (some ⟨b1, 0, none⟩)), (2, .pointer (some ⟨b2, 0, none⟩)), (3, .pointer (some ⟨b3, 0, none⟩)), (9, .slice B t.kids.length k), (10, .int .i64 t.kids.length), (11, .int .i64 s.1)]) (fun s W => s.1 ≤ t.kids.length ∧ Holds w [Blk b3 24 [.int .i64 t.x.kind, .string t.x.name, .int .i64 t.x.tok, .slice s.2.1 (t.kids.take s.1).length s.2.2], ORow fNd 24 (.slice s.2.1 (t.kids.take s.1).length s.2.2) (t.kids.take s.1), Blk b2 24 [.int .i64 0, .string ⟨#[]⟩, .int .i64 0, .slice none 0 0], Blk b1 24 [.int .i64 t.x.kind, .string t.x.name, .int .i64 t.x.tok, .slice B t.kids.length k]] W) (fun s => t.kids.length - s.1) (0, none, 0) (sc rfl (sc rfl (sc rfl (sc rfl (sc rfl (sc rfl (sn _))))))) ⟨Nat.zero_le _, (H10.oNil fNd 24).pm (by repeat constructor)⟩ ?_
  rintro ⟨i, Ar, cr⟩ W0 ⟨hi, H⟩
  dsimp only at hi H ⊢
  refine wcR ?_
  refine wV (v_lss rfl rfl) ?_
  refine wl_nil ?_
  refine wc_seq ?_
  refine wc_cond rfl (fun c0 => ?_) (fun c0 => ?_)
  rotate_left
  ·have c0p := oF c0
   have hie : t.kids.take i = t.kids := List.take_of_length_le (by omega)
   rw [hie] at H
   refine wc_exit ?_
   refine wcR ?_
   refine wV (v_loadN agg24 rfl rfl (H.ats (by repeat constructor))) ?_
   refine wl_store (vs := [_, _, _, _]) H (by repeat constructor) sz24 rfl rfl rfl rfl rfl (by (repeat constructor)) ?_
   intro w27 H28 hw27
   refine wl_nil ?_
   refine wc_ret ?_
   exact ⟨_, resc rfl rfl (run_loadVarN agg24 rfl (H28.ats (by repeat constructor))), Ar, cr, rfl, H28.pm (by repeat constructor)⟩
  have c0p := oT c0
  have hin : i < t.kids.length := by omega
  refine wc_skip ?_
  refine wc_seq ?_
  refine wc_block ?_
  refine wcR ?_
  refine wV (v_idx Try.underlying22 sz24 hr.ad rfl rfl (by omega) (by omega)) ?_
  obtain ⟨B14_, k14_, hc14_, hl14_, hr14_⟩ := hr.atTr nd0 (i := i) (by omega)
  refine wV (v_loadN (cs := [.int .i64 (t.kids.getD i nd0).x.kind, .string (t.kids.getD i nd0).x.name, .int .i64 (t.kids.getD i nd0).x.tok, .slice B14_ (t.kids.getD i nd0).kids.length k14_]) agg24 rfl rfl (fun q_ u_ hu_ => H.cell (hc14_ q_ u_ hu_))) ?_
  refine wl_alloc (cs := [.int .i64 0, .string ⟨#[]⟩, .int .i64 0, .slice none 0 0]) H rfl zv24 rfl ?_
  intro b5 w12 hb5 H13
  refine wl_store (vs := [_, _, _, _]) H13 (by repeat constructor) sz24 rfl rfl rfl rfl rfl (by (repeat constructor)) ?_
  intro w14 H15 hw14
  refine wl_nil ?_
  refine wc_tree [0, 1, 2] (fun W => Holds w [Blk b3 24 [.int .i64 t.x.kind, .string t.x.name, .int .i64 t.x.tok, .slice Ar (t.kids.take i).length cr], ORow fNd 24 (.slice Ar (t.kids.take i).length cr) (t.kids.take i), Blk b5 24 [.int .i64 (t.kids.getD i nd0).x.kind, .string (t.kids.getD i nd0).x.name, .int .i64 (t.kids.getD i nd0).x.tok, .slice B14_ (t.kids.getD i nd0).kids.length k14_], Blk b2 24 [.int .i64 0, .string ⟨#[]⟩, .int .i64 0, .slice none 0 0], Blk b1 24 [.int .i64 t.x.kind, .string t.x.name, .int .i64 t.x.tok, .slice B t.kids.length k]] W) mixed ?_
  have Hd := H15.drew
  have HSd : Holds w [Blk b3 24 [.int .i64 t.x.kind, .string t.x.name, .int .i64 t.x.tok, .slice Ar (t.kids.take i).length cr], ORow fNd 24 (.slice Ar (t.kids.take i).length cr) (t.kids.take i), Blk b5 24 [.int .i64 (t.kids.getD i nd0).x.kind, .string (t.kids.getD i nd0).x.name, .int .i64 (t.kids.getD i nd0).x.tok, .slice B14_ (t.kids.getD i nd0).kids.length k14_], Blk b2 24 [.int .i64 0, .string ⟨#[]⟩, .int .i64 0, .slice none 0 0], Blk b1 24 [.int .i64 t.x.kind, .string t.x.name, .int .i64 t.x.tok, .slice B t.kids.length k]] _ := Hd.pm (by repeat constructor)
  refine wjV (k := 0) rfl HSd (fun W HW => v_fb (o2 := 3) fa24_3 rfl rfl) ?_
  refine wjV (k := 1) rfl HSd (fun W HW => v_load one22 rfl (HW.at (by repeat constructor) rfl)) ?_
  refine wjV (k := 2) rfl HSd (fun W HW => v_loadN agg24 rfl rfl (HW.ats (by repeat constructor))) ?_
  refine wj_t (k := 3) rfl (by kernel_rfl) ?_
  refine wl_call en41 rfl rfl (ih _ (getD_mem (z := nd0) hin) _ _ _ (hr14_.below Hd.old) (Tr.Alls_at nd0 hin hfs)) ?_
  rintro _ w16 ⟨Ax, cx, rfl, Hc⟩
  have H17 := Hd.call1 Hc
  have HS18 : Holds w [Blk b3 24 [.int .i64 t.x.kind, .string t.x.name, .int .i64 t.x.tok, .slice Ar (t.kids.take i).length cr], ORow fNd 24 (.slice Ar (t.kids.take i).length cr) (t.kids.take i), Blk b5 24 [.int .i64 (t.kids.getD i nd0).x.kind, .string (t.kids.getD i nd0).x.name, .int .i64 (t.kids.getD i nd0).x.tok, .slice B14_ (t.kids.getD i nd0).kids.length k14_], Blk b2 24 [.int .i64 0, .string ⟨#[]⟩, .int .i64 0, .slice none 0 0], Blk b1 24 [.int .i64 t.x.kind, .string t.x.name, .int .i64 t.x.tok, .slice B t.kids.length k]] _ := H17.pm (by repeat constructor)
  refine wl_nil (tn ⟨fun _ => HS18, ?_⟩)
  refine wj_t (k := 4) rfl (by kernel_rfl) ?_
  refine wl_slit (v := .agg #[.int .i64 0, .string ⟨#[]⟩, .int .i64 0, .slice none 0 0]) (z := [.int .i64 0, .string ⟨#[]⟩, .int .i64 0, .slice none 0 0]) (cs := [.int .i64 (t.kids.getD i nd0).x.kind, .string (t.kids.getD i nd0).x.name, .int .i64 (t.kids.getD i nd0).x.tok, .slice Ax (t.kids.getD i nd0).kids.length cx]) (sz := 4) H17 rfl Try.underlying22 sz24 zv24 (by decide) (by decide) (by kernel_rfl) rfl (by repeat constructor) ?_
  intro b19 w19 hb19 H19 hs19
  have HS20 : Holds w [Blk b3 24 [.int .i64 t.x.kind, .string t.x.name, .int .i64 t.x.tok, .slice Ar (t.kids.take i).length cr], ORow fNd 24 (.slice Ar (t.kids.take i).length cr) (t.kids.take i), Blk b5 24 [.int .i64 (t.kids.getD i nd0).x.kind, .string (t.kids.getD i nd0).x.name, .int .i64 (t.kids.getD i nd0).x.tok, .slice B14_ (t.kids.getD i nd0).kids.length k14_], Blk b2 24 [.int .i64 0, .string ⟨#[]⟩, .int .i64 0, .slice none 0 0], Blk b1 24 [.int .i64 t.x.kind, .string t.x.name, .int .i64 t.x.tok, .slice B t.kids.length k]] _ := H19.pm (by repeat constructor)
  refine wl_nil (tn ⟨fun _ => HS20, ?_⟩)
  refine wj_t (k := 5) rfl (by kernel_rfl) ?_
  refine wl_appO (f := fNd) (t' := (t.kids.getD i nd0)) (u := .slice Ax (t.kids.getD i nd0).kids.length cx) H19 (by repeat constructor) (by repeat constructor) (H19.ats (by repeat constructor)) rfl Try.underlying22 info24 rfl rfl rfl (by rw [List.length_take]; omega) (by decide) ?_
  intro A20 c20 w21 H21 hs21
  rw [← take_succ' nd0 hin] at H21 ⊢
  refine wl_nil (tn ⟨fun hlt => absurd hlt (by rw [show allH _ _ _ = true by kernel_rfl]; simp), ?_⟩)
  refine wj_t (k := 6) rfl (by kernel_rfl) ?_
  refine wV (v_fb (o2 := 3) fa24_3 rfl rfl) ?_
  refine wl_nil (tn ⟨fun hlt => absurd hlt (by rw [show allH _ _ _ = true by kernel_rfl]; simp), ?_⟩)
  refine wj_t (k := 7) rfl (by kernel_rfl) ?_
  refine wl_store (vs := [_]) H21 (by repeat constructor) sz22 rfl rfl rfl rfl rfl (by (repeat constructor)) ?_
  intro w24 H25 hw24
  refine wl_nil (tn ⟨fun hlt => absurd hlt (by rw [show allH _ _ _ = true by kernel_rfl]; simp), ?_⟩)
  refine wj_done (by kernel_rfl) ?_
  refine wc_region ?_
  refine wV (v_addi rfl rfl (by omega)) ?_
  refine wM ?_
  refine wl_nil ?_
  exact ⟨(i + 1, A20, c20), (sc rfl (sc rfl (sc rfl (sc rfl (sc rfl (sc rfl (sn _))))))), ⟨by dsimp only; omega, H25.pm (by repeat constructor)⟩, by dsimp only; omega⟩

theorem copied_calls : ∀ t : Nd, CopyOk t := Tr.ind fun x kids ih => fun w B k hr hf => copied_step (t := .mk x kids) hr hf ih

abbrev KI : KeyK Try.prog 3 Int := keyInt Try.underlying3

def UsesOk (g : Pl) (d : Dv) : Prop := ∀ (w0 w : World) (L : List Ch) (B : Option Addr) (bm k N : Nat) (f : Int → Option Bool) (hr : Rd (kTr fDv) w0 B d.kids) (hd : d.All (dvOk g)) (hn : N + d.cnt ≤ 1099511627776) (HH : Holds w0 (Mp KI Value.bool bm N f :: L) w), Calls Try.prog 36 #[.agg #[.int .i64 d.x.prod, .int .i64 d.x.tok, .slice B d.kids.length k], .map (some bm)] w fun e w' => ∃ v, e = .returned v ∧ ∃ f', Holds w0 (Mp KI Value.bool bm (N + d.cnt) f' :: L) w'

set_option maxHeartbeats 3200000 in
set_option maxRecDepth 100000 in
theorem uses_step {g : Pl} {w0 w : World} {L : List Ch} {B : Option Addr} {bm k N : Nat} {f : Int → Option Bool} {d : Dv} (hg : g.prods.length ≤ 1099511627776) (hr : Rd (kTr fDv) w0 B d.kids) (hd : d.All (dvOk g)) (hn : N + d.cnt ≤ 1099511627776) (HH : Holds w0 (Mp KI Value.bool bm N f :: L) w) (ih : ∀ t' ∈ d.kids, UsesOk g t') : Calls Try.prog 36 #[.agg #[.int .i64 d.x.prod, .int .i64 d.x.tok, .slice B d.kids.length k], .map (some bm)] w fun e w' => ∃ v, e = .returned v ∧ ∃ f', Holds w0 (Mp KI Value.bool bm (N + d.cnt) f' :: L) w' := by
  obtain ⟨hd0, hds⟩ := (Tr.All_eq d).1 hd
  have hcnt := Tr.cnt_eq d
  have hkl := Tr.cnts_len d.kids
  have hpr : d.x.prod < 0 ∨ (0 ≤ d.x.prod ∧ d.x.prod < g.prods.length) := hd0.imp id (fun h => h.1)
  refine calls_of Try.func36 rfl Try.ntmps36 rfl ?_
  have H := HH
  refine wcR ?_
  refine wl_box (cs := [_, _, _]) H rfl rfl rfl ?_
  intro b2 w1 hb2 H2
  refine wl_nil ?_
  refine wc_cut (σ := Int → Option Bool) (fun f' => [(1, .map (some bm)), (2, .pointer (some ⟨b2, 0, none⟩))]) (fun f' W => Holds w0 (Mp KI Value.bool bm (N + 1) f' :: Blk b2 50 [.int .i64 d.x.prod, .int .i64 d.x.tok, .slice B d.kids.length k] :: L) W) ?_ ?_
  ·refine wcR ?_
   refine wV (v_fb (o2 := 0) fa50_0 rfl rfl) ?_
   refine wV (v_load one3 rfl (H2.at (by repeat constructor) rfl)) ?_
   refine wV (v_geq rfl rfl) ?_
   refine wl_nil ?_
   refine wc_cond rfl (fun c0 => ?_) (fun c0 => ?_)
   rotate_left
   ·have c0p := oF c0
    refine wc_skip ?_
    first
      | exact ⟨_, (sc rfl (sc rfl (sn _))), H2.turn (by repeat constructor)⟩
      | exact ⟨_, (sc rfl (sc rfl (sn _))), (H2.turn (A := Mp KI Value.bool bm N f) (by repeat constructor)).head_imp (Mp.mono (by omega))⟩
   have c0p := oT c0
   refine wc_region ?_
   refine wM ?_
   refine wV (v_fb (o2 := 0) fa50_0 rfl rfl) ?_
   refine wV (v_load one3 rfl (H2.at (by repeat constructor) rfl)) ?_
   refine wl_mapset H2 (by repeat constructor) Try.underlying100 (show KI.ok d.x.prod from wf64 (by unfold I64; omega)) (by unfold maxLen; omega) rfl rfl rfl ?_
   intro w3 H3
   refine wl_nil ?_
   first
     | exact ⟨_, (sc rfl (sc rfl (sn _))), H3.turn (by repeat constructor)⟩
     | exact ⟨_, (sc rfl (sc rfl (sn _))), (H3.turn (A := Mp KI Value.bool bm N f) (by repeat constructor)).head_imp (Mp.mono (by omega))⟩
  rintro f2 Wm H
  refine wcR ?_
  refine wV (v_fb (o2 := 2) fa50_2 rfl rfl) ?_
  refine wV (v_load one48 rfl (H.at (by repeat constructor) rfl)) ?_
  refine wV (v_len Try.underlying48 rfl) ?_
  refine wM ?_
  refine wl_nil ?_
  refine wc_block ?_
  refine wc_loop (σ := Nat × (Int → Option Bool)) (fun s => [(1, .map (some bm)), (2, .pointer (some ⟨b2, 0, none⟩)), (13, .slice B d.kids.length k), (14, .int .i64 d.kids.length), (15, .int .i64 s.1)]) (fun s W => s.1 ≤ d.kids.length ∧ Holds w0 (Mp KI Value.bool bm (N + 1 + Tr.cnts (d.kids.take s.1)) s.2 :: Blk b2 50 [.int .i64 d.x.prod, .int .i64 d.x.tok, .slice B d.kids.length k] :: L) W) (fun s => d.kids.length - s.1) (0, f2) (sc rfl (sc rfl (sc rfl (sc rfl (sc rfl (sn _)))))) ⟨Nat.zero_le _, H⟩ ?_
  rintro ⟨i, f3⟩ W0 ⟨hi, H⟩
  dsimp only at hi H ⊢
  refine wcR ?_
  refine wV (v_lss rfl rfl) ?_
  refine wl_nil ?_
  refine wc_seq ?_
  refine wc_cond rfl (fun c1 => ?_) (fun c1 => ?_)
  rotate_left
  ·have c1p := oF c1
   refine wc_exit ?_
   exact ⟨_, res0 rfl, f3, by rw [hcnt, ← Nat.add_assoc, show Tr.cnts d.kids = Tr.cnts (d.kids.take i) by rw [List.take_of_length_le (by omega)]]; exact H.drop (.there _ (.here _ _))⟩
  have c1p := oT c1
  refine wc_skip ?_
  refine wc_seq ?_
  refine wc_block ?_
  refine wcR ?_
  refine wV (v_idx Try.underlying48 sz50 hr.ad rfl rfl (by omega) (by omega)) ?_
  obtain ⟨B18_, k18_, hc18_, hl18_, hr18_⟩ := hr.atTr dv0 (i := i) (by omega)
  refine wV (v_loadN (cs := [.int .i64 (d.kids.getD i dv0).x.prod, .int .i64 (d.kids.getD i dv0).x.tok, .slice B18_ (d.kids.getD i dv0).kids.length k18_]) agg50 rfl rfl (fun q_ u_ hu_ => H.cell (hc18_ q_ u_ hu_))) ?_
  refine wl_alloc (cs := [.int .i64 0, .int .i64 0, .slice none 0 0]) H rfl zv50 rfl ?_
  intro b5 w5 hb5 H6
  refine wl_store (vs := [_, _, _]) H6 (by repeat constructor) sz50 rfl rfl rfl rfl rfl (by (repeat constructor)) ?_
  intro w7 H8 hw7
  refine wl_nil ?_
  refine wc_region ?_
  refine wV (v_loadN agg50 rfl rfl (H8.ats (by repeat constructor))) ?_
  refine wM ?_
  refine wl_call en36 rfl rfl (ih _ (getD_mem (z := dv0) (show i < d.kids.length by omega)) w0 _ _ _ bm _ _ f3 hr18_ (Tr.Alls_at dv0 (by omega) hds) (by have h_ := Tr.cnts_succ dv0 d.kids i (by omega); have h2_ := Tr.cnts_take d.kids (i + 1); omega) (H8.turn (A := Mp KI Value.bool bm (N + 1 + Tr.cnts (d.kids.take i)) f3) (by repeat constructor))) ?_
  rintro _ w9 ⟨f4, Hc⟩
  refine wl_nil ?_
  refine wc_region ?_
  refine wV (v_addi rfl rfl (by omega)) ?_
  refine wM ?_
  refine wl_nil ?_
  exact ⟨(i + 1, f4), (sc rfl (sc rfl (sc rfl (sc rfl (sc rfl (sn _)))))), ⟨by dsimp only; omega, by (dsimp only; rw [Tr.cnts_succ dv0 d.kids i (by omega), ← Nat.add_assoc]; exact Hc.drop (.there _ (.here _ _)))⟩, by dsimp only; omega⟩

theorem uses_calls {g : Pl} (hg : g.prods.length ≤ 1099511627776) : ∀ d : Dv, UsesOk g d := Tr.ind fun x kids ih => fun w0 w L B bm k N f hr hd hn HH => uses_step (d := .mk x kids) hg hr hd hn HH ih
end Go.Proofs.Ytgdemplcpcacaaa.ValueW

/-! What a derivation's actions make. -/
namespace Go.Proofs.Ytgdemplcpcacaaa.ValW
open Go Go.RowKit Go.Proofs.YtgdemplcpcacaaaFx Go.Proofs.Ytgdemplcpcacaaa.MakeW Go.Proofs.Ytgdemplcpcacaaa.MakerW Go.Proofs.Ytgdemplcpcacaaa.ValueW
theorem agg24 : Agg Try.prog 24 4 := agg_of Try.underlying24 (by kernel_rfl)
theorem agg50 : Agg Try.prog 50 3 := agg_of Try.underlying50 (by kernel_rfl)
theorem ba24 : BuildAt Try.prog 24 [.int .i64 0, .string ⟨#[]⟩, .int .i64 0, .slice none 0 0] [(0, 1), (1, 1), (2, 1), (3, 1)] := build_at Try.underlying24 (by kernel_rfl) (by kernel_rfl)
theorem en39 : Enters Try.prog 39 := enters Try.func39 (by kernel_rfl) rfl
theorem fa105_0 : FieldAt Try.prog 105 0 0 := field_at (sz := 0) Try.underlying105 rfl (by kernel_rfl) rfl
theorem fa50_0 : FieldAt Try.prog 50 0 0 := field_at (sz := 0) Try.underlying50 rfl (by kernel_rfl) rfl
theorem fa50_1 : FieldAt Try.prog 50 1 1 := field_at (sz := 0) Try.underlying50 rfl (by kernel_rfl) rfl
theorem fa50_2 : FieldAt Try.prog 50 2 2 := field_at (sz := 0) Try.underlying50 rfl (by kernel_rfl) rfl
theorem info24 : (Try.prog.info? 24).map (fun i => (i.zero, i.size, i.bytes)) = some (some (.agg #[.int .i64 0, .string ⟨#[]⟩, .int .i64 0, .slice none 0 0]), 4, 56) := by kernel_rfl
theorem mixed : Try.prog.follows .mixedOrders = true := by kernel_rfl
theorem one103 : One Try.prog 103 := one_of Try.underlying103 rfl (by kernel_rfl)
theorem one107 : One Try.prog 107 := one_of Try.underlying107 rfl (by kernel_rfl)
theorem one3 : One Try.prog 3 := one_of Try.underlying3 rfl (by kernel_rfl)
theorem one48 : One Try.prog 48 := one_of Try.underlying48 rfl (by kernel_rfl)
theorem sz107 : ∀ W, (sizeOf 107).run Try.prog W = .ok 1 W := size_of (by kernel_rfl)
theorem sz24 : ∀ W, (sizeOf 24).run Try.prog W = .ok 4 W := size_of (by kernel_rfl)
theorem sz50 : ∀ W, (sizeOf 50).run Try.prog W = .ok 3 W := size_of (by kernel_rfl)
theorem zv24 : ∀ W, (zeroValue 24).run Try.prog W = .ok (.agg #[.int .i64 0, .string ⟨#[]⟩, .int .i64 0, .slice none 0 0]) W := zero_of (by kernel_rfl)
theorem zv50 : ∀ W, (zeroValue 50).run Try.prog W = .ok (.agg #[.int .i64 0, .int .i64 0, .slice none 0 0]) W := zero_of (by kernel_rfl)

def ValOk (g : Pl) (d : Dv) : Prop := ∀ (w : World) (B Ad : Option Addr) (bm k cd : Nat) (hm : ∀ j u, ([.slice Ad g.prods.length cd] : List Value)[j]? = some u → w.cell? ⟨bm, j, none⟩ = some u) (ha : Rd krFc.kn w Ad (g.prods.map Pr.act)) (hr : Rd (kTr fDv) w B d.kids) (hd : d.All (dvOk g)) (hn : d.cnt ≤ 1099511627776), Calls Try.prog 39 #[.pointer (some ⟨bm, 0, none⟩), .agg #[.int .i64 d.x.prod, .int .i64 d.x.tok, .slice B d.kids.length k]] w fun e w' => ∃ v, e = .returned v ∧ ∃ A c, v = .agg #[.int .i64 (valD g d).x.kind, .string (valD g d).x.name, .int .i64 (valD g d).x.tok, .slice A (valD g d).kids.length c] ∧ Holds w [NX (krTr fNd) w no (valD g d) [.int .i64 (valD g d).x.kind, .string (valD g d).x.name, .int .i64 (valD g d).x.tok, .slice A (valD g d).kids.length c]] w'

set_option maxHeartbeats 3200000 in
set_option maxRecDepth 100000 in
theorem value_step {g : Pl} {w : World} {B Ad : Option Addr} {bm k cd : Nat} {d : Dv} (hg : g.prods.length ≤ 1099511627776) (hact : ActsOk g) (hm : ∀ j u, ([.slice Ad g.prods.length cd] : List Value)[j]? = some u → w.cell? ⟨bm, j, none⟩ = some u) (ha : Rd krFc.kn w Ad (g.prods.map Pr.act)) (hr : Rd (kTr fDv) w B d.kids) (hd : d.All (dvOk g)) (hn : d.cnt ≤ 1099511627776) (ih : ∀ t' ∈ d.kids, ValOk g t') : Calls Try.prog 39 #[.pointer (some ⟨bm, 0, none⟩), .agg #[.int .i64 d.x.prod, .int .i64 d.x.tok, .slice B d.kids.length k]] w fun e w' => ∃ v, e = .returned v ∧ ∃ A c, v = .agg #[.int .i64 (valD g d).x.kind, .string (valD g d).x.name, .int .i64 (valD g d).x.tok, .slice A (valD g d).kids.length c] ∧ Holds w [NX (krTr fNd) w no (valD g d) [.int .i64 (valD g d).x.kind, .string (valD g d).x.name, .int .i64 (valD g d).x.tok, .slice A (valD g d).kids.length c]] w' := by
  obtain ⟨hd0, hds⟩ := (Tr.All_eq d).1 hd
  have hcnt := Tr.cnt_eq d
  have hkl := Tr.cnts_len d.kids
  have had : 0 < g.prods.length → Ad = some (adr Ad) := fun h => ha.ad (by rw [List.length_map]; exact h)
  refine calls_of Try.func39 rfl Try.ntmps39 rfl ?_
  have H := Holds.start w
  refine wcR ?_
  refine wl_box (cs := [_, _, _]) H rfl rfl rfl ?_
  intro b3 w1 hb3 H2
  refine wl_alloc (cs := [.int .i64 0, .string ⟨#[]⟩, .int .i64 0, .slice none 0 0]) H2 rfl zv24 rfl ?_
  intro b4 w3 hb4 H4
  refine wl_nil ?_
  refine wc_seq ?_
  refine wcR ?_
  refine wV (v_fb (o2 := 0) fa50_0 rfl rfl) ?_
  refine wV (v_load one3 rfl (H4.at (by repeat constructor) rfl)) ?_
  refine wV (v_lss rfl rfl) ?_
  refine wl_nil ?_
  refine wc_cond rfl (fun c0 => ?_) (fun c0 => ?_)
  ·have c0p := oT c0
   refine wcR ?_
   refine wV (v_fb (o2 := 1) fa50_1 rfl rfl) ?_
   refine wV (v_load one3 rfl (H4.at (by repeat constructor) rfl)) ?_
   refine wV (v_bld ba24 rfl (by repeat constructor)) ?_
   refine wl_store (vs := [_, _, _, _]) H4 (by repeat constructor) sz24 rfl rfl rfl rfl rfl (by (repeat constructor)) ?_
   intro w5 H6 hw5
   refine wl_nil ?_
   refine wc_ret ?_
   first
     | (have hk_ := c0p
        rw [valD_leaf c0p]
        exact ⟨_, resc rfl rfl (run_loadVarN agg24 rfl (H6.ats (by repeat constructor))), none, 0, rfl, (H6.nxLeaf (f := fNd) ⟨1, ⟨#[]⟩, d.x.tok⟩).pm (by repeat constructor)⟩)
     | (rw [valD_node c0p]
        exact ⟨_, resc rfl rfl (run_loadVarN agg24 rfl (H6.ats (by repeat constructor))), Ax, cx, rfl, H6.pm (by repeat constructor)⟩)
  have c0p := oF c0
  have hdr : (0 ≤ d.x.prod ∧ d.x.prod < g.prods.length) ∧ d.kids.length = (g.prods.getD d.x.prod.toNat pr0).right.length := hd0.elim (fun h => absurd h c0p) (fun h => h)
  refine wc_skip ?_
  refine wcR ?_
  refine wA ?_
  refine wl_nil ?_
  refine wc_seq ?_
  refine wcR ?_
  refine wV (v_fb (o2 := 2) fa50_2 rfl rfl) ?_
  refine wV (v_load one48 rfl (H4.at (by repeat constructor) rfl)) ?_
  refine wV (v_len Try.underlying48 rfl) ?_
  refine wM ?_
  refine wl_nil ?_
  refine wc_block ?_
  refine wc_loop (σ := Nat × Option Addr × Nat) (fun s => [(0, .pointer (some ⟨bm, 0, none⟩)), (3, .pointer (some ⟨b3, 0, none⟩)), (4, .pointer (some ⟨b4, 0, none⟩)), (5, .slice s.2.1 ((d.kids.take s.1).map (valD g)).length s.2.2), (15, .slice B d.kids.length k), (16, .int .i64 d.kids.length), (17, .int .i64 s.1)]) (fun s W => s.1 ≤ d.kids.length ∧ Holds w [FRow (krTr fNd) w no 24 (.slice s.2.1 ((d.kids.take s.1).map (valD g)).length s.2.2) ((d.kids.take s.1).map (valD g)), Blk b4 24 [.int .i64 0, .string ⟨#[]⟩, .int .i64 0, .slice none 0 0], Blk b3 50 [.int .i64 d.x.prod, .int .i64 d.x.tok, .slice B d.kids.length k]] W) (fun s => d.kids.length - s.1) (0, none, 0) (sc rfl (sc rfl (sc rfl (sc rfl (sc rfl (sc rfl (sc rfl (sn _)))))))) ⟨Nat.zero_le _, (H4.frNil (krTr fNd) w no 24).pm (by repeat constructor)⟩ ?_
  rintro ⟨i, A5, cz⟩ W0 ⟨hi, H⟩
  dsimp only at hi H ⊢
  refine wcR ?_
  refine wV (v_lss rfl rfl) ?_
  refine wl_nil ?_
  refine wc_seq ?_
  refine wc_cond rfl (fun c1 => ?_) (fun c1 => ?_)
  ·have c1p := oT c1
   have hin : i < d.kids.length := by omega
   refine wc_skip ?_
   refine wc_seq ?_
   refine wc_block ?_
   refine wcR ?_
   refine wV (v_idx Try.underlying48 sz50 hr.ad rfl rfl (by omega) (by omega)) ?_
   obtain ⟨B20_, k20_, hc20_, hl20_, hr20_⟩ := hr.atTr dv0 (i := i) (by omega)
   refine wV (v_loadN (cs := [.int .i64 (d.kids.getD i dv0).x.prod, .int .i64 (d.kids.getD i dv0).x.tok, .slice B20_ (d.kids.getD i dv0).kids.length k20_]) agg50 rfl rfl (fun q_ u_ hu_ => H.cell (hc20_ q_ u_ hu_))) ?_
   refine wl_alloc (cs := [.int .i64 0, .int .i64 0, .slice none 0 0]) H rfl zv50 rfl ?_
   intro b7 w8 hb7 H9
   refine wl_store (vs := [_, _, _]) H9 (by repeat constructor) sz50 rfl rfl rfl rfl rfl (by (repeat constructor)) ?_
   intro w10 H11 hw10
   refine wl_nil ?_
   refine wc_region ?_
   refine wM ?_
   refine wM ?_
   refine wV (v_loadN agg50 rfl rfl (H11.ats (by repeat constructor))) ?_
   refine wl_call en39 rfl rfl (ih _ (getD_mem (z := dv0) hin) _ _ _ bm _ cd (fun j u hu => H11.cell (hm j u hu)) (ha.below H11.old) (hr20_.below H11.old) (Tr.Alls_at dv0 hin hds) (by have h_ := Tr.cnts_succ dv0 d.kids i hin; have h2_ := Tr.cnts_take d.kids (i + 1); omega)) ?_
   rintro _ w12 ⟨Ax, cx, rfl, Hc⟩
   have H13 := H11.callN1 (fun _ h_ => h_.elim) Hc
   refine wl_slit (v := .agg #[.int .i64 0, .string ⟨#[]⟩, .int .i64 0, .slice none 0 0]) (z := [.int .i64 0, .string ⟨#[]⟩, .int .i64 0, .slice none 0 0]) (cs := [.int .i64 (valD g (d.kids.getD i dv0)).x.kind, .string (valD g (d.kids.getD i dv0)).x.name, .int .i64 (valD g (d.kids.getD i dv0)).x.tok, .slice Ax (valD g (d.kids.getD i dv0)).kids.length cx]) (sz := 4) H13 rfl Try.underlying22 sz24 zv24 (by decide) (by decide) (by kernel_rfl) rfl (by repeat constructor) ?_
   intro b25 w14 hb25 H14 hs14
   refine wl_appF (cs := [.int .i64 (valD g (d.kids.getD i dv0)).x.kind, .string (valD g (d.kids.getD i dv0)).x.name, .int .i64 (valD g (d.kids.getD i dv0)).x.tok, .slice Ax (valD g (d.kids.getD i dv0)).kids.length cx]) (x' := (valD g (d.kids.getD i dv0))) H14 (by repeat constructor) (by repeat constructor) (H14.ats (by repeat constructor)) rfl Try.underlying22 info24 rfl (by decide) rfl rfl (by rw [map_take_len _ hi]; omega) (by decide) ?_
   intro A26 c26 w15 H15 hs15
   rw [← map_succ (valD g) dv0 hin] at H15 ⊢
   refine wA ?_
   refine wl_nil ?_
   refine wc_region ?_
   refine wV (v_addi rfl rfl (by omega)) ?_
   refine wM ?_
   refine wl_nil ?_
   exact ⟨(i + 1, A26, c26), (sc rfl (sc rfl (sc rfl (sc rfl (sc rfl (sc rfl (sc rfl (sn _)))))))), ⟨by dsimp only; omega, H15.pm (by repeat constructor)⟩, by dsimp only; omega⟩
  have c1p := oF c1
  have hie : d.kids.take i = d.kids := List.take_of_length_le (by omega)
  rw [hie] at H ⊢
  refine wc_exit ?_
  refine wc_seq ?_
  refine wc_tree [0, 1, 2, 3, 4, 5, 6, 7, 8] (fun W => Holds w [FRow (krTr fNd) w no 24 (.slice A5 (d.kids.map (valD g)).length cz) (d.kids.map (valD g)), Blk b4 24 [.int .i64 0, .string ⟨#[]⟩, .int .i64 0, .slice none 0 0], Blk b3 50 [.int .i64 d.x.prod, .int .i64 d.x.tok, .slice B d.kids.length k]] W) mixed ?_
  have Hd := H.drew
  have HSd : Holds w [FRow (krTr fNd) w no 24 (.slice A5 (d.kids.map (valD g)).length cz) (d.kids.map (valD g)), Blk b4 24 [.int .i64 0, .string ⟨#[]⟩, .int .i64 0, .slice none 0 0], Blk b3 50 [.int .i64 d.x.prod, .int .i64 d.x.tok, .slice B d.kids.length k]] _ := Hd.pm (by repeat constructor)
  refine wjV (k := 0) rfl HSd (fun W HW => v_move rfl) ?_
  refine wjV (k := 1) rfl HSd (fun W HW => v_nil rfl) ?_
  refine wjV (k := 2) rfl HSd (fun W HW => v_fb (o2 := 0) fa105_0 rfl rfl) ?_
  refine wjV (k := 3) rfl HSd (fun W HW => v_load one103 rfl (HW.cell (hm 0 _ rfl))) ?_
  refine wjV (k := 4) rfl HSd (fun W HW => v_fb (o2 := 0) fa50_0 rfl rfl) ?_
  refine wjV (k := 5) rfl HSd (fun W HW => v_load one3 rfl (HW.at (by repeat constructor) rfl)) ?_
  refine wjV (k := 6) rfl HSd (fun W HW => v_idx Try.underlying103 sz107 had rfl rfl (by omega) (by omega)) ?_
  obtain ⟨cf_, ⟨vf, rfl, hf1⟩, hf2⟩ := ha.el d.x.prod.toNat (g.prods.getD d.x.prod.toNat pr0).act (by rw [List.getElem?_map, List.getD_eq_getElem?_getD, List.getElem?_eq_getElem (by omega)]; rfl)
  have hf3 := hf2 0 vf rfl
  refine wjV (k := 7) rfl HSd (fun W HW => v_load (v := vf) one107 rfl (HW.cell hf3)) ?_
  refine wjV (k := 8) rfl HSd (fun W HW => v_move rfl) ?_
  refine wj_t (k := 9) rfl (by kernel_rfl) ?_
  obtain ⟨S_, hS1, hS2, hS3⟩ := (Hd.turn (A := FRow (krTr fNd) w no 24 (.slice A5 (d.kids.map (valD g)).length cz) (d.kids.map (valD g))) (by repeat constructor)).handOver
  refine wl_callV rfl rfl rfl (fc_calls (g.prods.getD d.x.prod.toNat pr0).act _ vf S_ A5 cz (d.kids.map (valD g)) (Fc.K.mono (fun p v hc => Hd.cell hc) _ _ hf1) (by rw [List.length_map, hdr.2]; exact (hact _ (by omega)).1) hS2 hS1 (by have := (hact d.x.prod.toNat (by omega)).2; omega)) ?_
  rintro _ w16 ⟨Ax, cx, rfl, Hc16⟩
  have H16 := hS3 _ _ _ _ Hc16
  refine wl_nil (tn ⟨fun hlt => absurd hlt (by rw [show allH _ _ _ = true by kernel_rfl]; simp), ?_⟩)
  refine wj_t (k := 10) rfl (by kernel_rfl) ?_
  refine wl_store (vs := [_, _, _, _]) H16 (by repeat constructor) sz24 rfl rfl rfl rfl rfl (by (repeat constructor)) ?_
  intro w18 H19 hw18
  refine wl_nil (tn ⟨fun hlt => absurd hlt (by rw [show allH _ _ _ = true by kernel_rfl]; simp), ?_⟩)
  refine wj_done (by kernel_rfl) ?_
  refine wc_ret ?_
  first
    | (have hk_ := c0p
       rw [valD_leaf c0p]
       exact ⟨_, resc rfl rfl (run_loadVarN agg24 rfl (H19.ats (by repeat constructor))), none, 0, rfl, (H19.nxLeaf (f := fNd) ⟨1, ⟨#[]⟩, d.x.tok⟩).pm (by repeat constructor)⟩)
    | (rw [valD_node c0p]
       exact ⟨_, resc rfl rfl (run_loadVarN agg24 rfl (H19.ats (by repeat constructor))), Ax, cx, rfl, H19.pm (by repeat constructor)⟩)

theorem value_calls {g : Pl} (hg : g.prods.length ≤ 1099511627776) (hact : ActsOk g) : ∀ d : Dv, ValOk g d := Tr.ind fun x kids ih => fun w B Ad bm k cd hm ha hr hd hn => value_step (d := .mk x kids) hg hact hm ha hr hd hn ih
end Go.Proofs.Ytgdemplcpcacaaa.ValW

/-! The program's values. -/
namespace Go.Proofs.Ytgdemplcpcacaaa.PValue
open Go Go.RowKit Go.Proofs.YtgdemplcpcacaaaFx Go.Proofs.Ytgdemplcpcacaaa.PartsW Go.Proofs.Ytgdemplcpcacaaa.KindsW Go.Proofs.Ytgdemplcpcacaaa.GramW Go.Proofs.Ytgdemplcpcacaaa.MakeW Go.Proofs.Ytgdemplcpcacaaa.MakerW Go.Proofs.Ytgdemplcpcacaaa.ValueW Go.Proofs.Ytgdemplcpcacaaa.ValW Go.Proofs.Ytgdemplcpcacaaa.CheckW
theorem agg24 : Agg Try.prog 24 4 := agg_of Try.underlying24 (by kernel_rfl)
theorem agg44 : Agg Try.prog 44 5 := agg_of Try.underlying44 (by kernel_rfl)
theorem agg50 : Agg Try.prog 50 3 := agg_of Try.underlying50 (by kernel_rfl)
theorem agg69 : Agg Try.prog 69 4 := agg_of Try.underlying69 (by kernel_rfl)
theorem agg73 : Agg Try.prog 73 7 := agg_of Try.underlying73 (by kernel_rfl)
theorem ba105 : BuildAt Try.prog 105 [.slice none 0 0] [(0, 1)] := build_at Try.underlying105 (by kernel_rfl) (by kernel_rfl)
theorem ba24 : BuildAt Try.prog 24 [.int .i64 0, .string ⟨#[]⟩, .int .i64 0, .slice none 0 0] [(0, 1), (1, 1), (2, 1), (3, 1)] := build_at Try.underlying24 (by kernel_rfl) (by kernel_rfl)
theorem en34 : Enters Try.prog 34 := enters Try.func34 (by kernel_rfl) rfl
theorem en35 : Enters Try.prog 35 := enters Try.func35 (by kernel_rfl) rfl
theorem en36 : Enters Try.prog 36 := enters Try.func36 (by kernel_rfl) rfl
theorem en37 : Enters Try.prog 37 := enters Try.func37 (by kernel_rfl) rfl
theorem en38 : Enters Try.prog 38 := enters Try.func38 (by kernel_rfl) rfl
theorem en39 : Enters Try.prog 39 := enters Try.func39 (by kernel_rfl) rfl
theorem en40 : Enters Try.prog 40 := enters Try.func40 (by kernel_rfl) rfl
theorem en41 : Enters Try.prog 41 := enters Try.func41 (by kernel_rfl) rfl
theorem en63 : Enters Try.prog 63 := enters Try.func63 (by kernel_rfl) rfl
theorem fa105_0 : FieldAt Try.prog 105 0 0 := field_at (sz := 0) Try.underlying105 rfl (by kernel_rfl) rfl
theorem fa44_3 : FieldAt Try.prog 44 3 3 := field_at (sz := 0) Try.underlying44 rfl (by kernel_rfl) rfl
theorem fa69_0 : FieldAt Try.prog 69 0 0 := field_at (sz := 0) Try.underlying69 rfl (by kernel_rfl) rfl
theorem fa69_1 : FieldAt Try.prog 69 1 1 := field_at (sz := 0) Try.underlying69 rfl (by kernel_rfl) rfl
theorem fa69_2 : FieldAt Try.prog 69 2 2 := field_at (sz := 0) Try.underlying69 rfl (by kernel_rfl) rfl
theorem fa69_3 : FieldAt Try.prog 69 3 3 := field_at (sz := 0) Try.underlying69 rfl (by kernel_rfl) rfl
theorem fa73_1 : FieldAt Try.prog 73 1 1 := field_at (sz := 0) Try.underlying73 rfl (by kernel_rfl) rfl
theorem fa73_3 : FieldAt Try.prog 73 3 3 := field_at (sz := 3) Try.underlying73 rfl (by kernel_rfl) rfl
theorem info107 : (Try.prog.info? 107).map (fun i => (i.zero, i.size, i.bytes)) = some (some (.nilFunc), 1, 8) := by kernel_rfl
theorem mixed : Try.prog.follows .mixedOrders = true := by kernel_rfl
theorem one103 : One Try.prog 103 := one_of Try.underlying103 rfl (by kernel_rfl)
theorem one3 : One Try.prog 3 := one_of Try.underlying3 rfl (by kernel_rfl)
theorem one42 : One Try.prog 42 := one_of Try.underlying42 rfl (by kernel_rfl)
theorem one51 : One Try.prog 51 := one_of Try.underlying51 rfl (by kernel_rfl)
theorem one67 : One Try.prog 67 := one_of Try.underlying67 rfl (by kernel_rfl)
theorem one9 : One Try.prog 9 := one_of Try.underlying9 rfl (by kernel_rfl)
theorem sz103 : ∀ W, (sizeOf 103).run Try.prog W = .ok 1 W := size_of (by kernel_rfl)
theorem sz107 : ∀ W, (sizeOf 107).run Try.prog W = .ok 1 W := size_of (by kernel_rfl)
theorem sz24 : ∀ W, (sizeOf 24).run Try.prog W = .ok 4 W := size_of (by kernel_rfl)
theorem sz69 : ∀ W, (sizeOf 69).run Try.prog W = .ok 4 W := size_of (by kernel_rfl)
theorem sz73 : ∀ W, (sizeOf 73).run Try.prog W = .ok 7 W := size_of (by kernel_rfl)
theorem zv107 : ∀ W, (zeroValue 107).run Try.prog W = .ok (.nilFunc) W := zero_of (by kernel_rfl)
theorem zv24 : ∀ W, (zeroValue 24).run Try.prog W = .ok (.agg #[.int .i64 0, .string ⟨#[]⟩, .int .i64 0, .slice none 0 0]) W := zero_of (by kernel_rfl)
theorem zv4 : ∀ W, (zeroValue 4).run Try.prog W = .ok (.bool false) W := zero_of (by kernel_rfl)
theorem zv69 : ∀ W, (zeroValue 69).run Try.prog W = .ok (.agg #[.int .i64 0, .int .i64 0, .string ⟨#[]⟩, .slice none 0 0]) W := zero_of (by kernel_rfl)
theorem zv73 : ∀ W, (zeroValue 73).run Try.prog W = .ok (.agg #[.int .i64 0, .slice none 0 0, .int .i64 0, .int .i64 0, .int .i64 0, .string ⟨#[]⟩, .slice none 0 0]) W := zero_of (by kernel_rfl)

set_option maxHeartbeats 1600000 in
set_option maxRecDepth 100000 in
theorem plain_calls {w : World} {B : Option Addr} {k : Nat} {syms : Int} {t : Ac} (hn : nodeOk syms t.x t.kids.length) : Calls Try.prog 63 #[.agg #[.int .i64 t.x.kind, .int .i64 t.x.at_, .string t.x.name, .slice B t.kids.length k]] w fun e w' => ∃ v, e = .returned v ∧ v = .bool true ∧ Holds w [] w' := by
  refine calls_of Try.func63 rfl Try.ntmps63 rfl ?_
  have H := Holds.start w
  refine wcR ?_
  refine wl_box (cs := [_, _, _, _]) H rfl rfl rfl ?_
  intro b1 w1 hb1 H2
  refine wA ?_
  refine wl_nil ?_
  refine wc_seq ?_
  refine wcR ?_
  refine wV (v_fb (o2 := 0) fa69_0 rfl rfl) ?_
  refine wV (v_load one3 rfl (H2.at (by repeat constructor) rfl)) ?_
  refine wl_nil ?_
  refine wc_block ?_
  refine wcR ?_
  refine wV (v_eql rfl rfl) ?_
  refine wA ?_
  refine wl_nil ?_
  refine wc_cond rfl (fun c0 => ?_) (fun c0 => ?_)
  ·have c0p := oT c0
   refine wcR ?_
   refine wV (v_fb (o2 := 1) fa69_1 rfl rfl) ?_
   refine wV (v_load one3 rfl (H2.at (by repeat constructor) rfl)) ?_
   refine wV (v_eql rfl rfl) ?_
   refine wM ?_
   refine wl_guard rfl rfl rfl (fun g10 => ?_) (fun g10 => ?_)
   rotate_left
   ·have g10p := oF g10
    refine wF g10 ?_
    refine wF g10 ?_
    refine wV (v_pick_f rfl g10 rfl) ?_
    refine wM ?_
    refine wF rfl ?_
    refine wF rfl ?_
    refine wF rfl ?_
    refine wF rfl ?_
    refine wV (v_pick_f rfl rfl rfl) ?_
    refine wA ?_
    refine wl_nil ?_
    refine wc_ret ?_
    first
      | exact ⟨_, res1 rfl rfl, congrArg Value.bool (decide_eq_true (by unfold nodeOk at hn; omega)), H2.pm (Pm.nil _)⟩
      | exact absurd hn (by unfold nodeOk; omega)
   have g10p := oT g10
   refine wV (v_fb (o2 := 2) fa69_2 rfl rfl) ?_
   refine wO g10 ?_
   refine wV (v_load one9 rfl (H2.at (by repeat constructor) rfl)) ?_
   refine wO g10 ?_
   refine wV (v_eql0 rfl rfl) ?_
   refine wV (v_pick_t rfl g10 rfl) ?_
   refine wM ?_
   refine wl_guard rfl rfl rfl (fun g15 => ?_) (fun g15 => ?_)
   rotate_left
   ·have g15p := oF g15
    refine wF g15 ?_
    refine wF g15 ?_
    refine wF g15 ?_
    refine wV (v_pick_f rfl g15 rfl) ?_
    refine wA ?_
    refine wl_nil ?_
    refine wc_ret ?_
    first
      | exact ⟨_, res1 rfl rfl, congrArg Value.bool (decide_eq_true (by unfold nodeOk at hn; omega)), H2.pm (Pm.nil _)⟩
      | exact absurd hn (by unfold nodeOk; omega)
   have g15p := oT g15
   refine wV (v_fb (o2 := 3) fa69_3 rfl rfl) ?_
   refine wO g15 ?_
   refine wV (v_load one67 rfl (H2.at (by repeat constructor) rfl)) ?_
   refine wO g15 ?_
   refine wV (v_len Try.underlying67 rfl) ?_
   refine wO g15 ?_
   refine wV (v_eql rfl rfl) ?_
   refine wV (v_pick_t rfl g15 rfl) ?_
   refine wA ?_
   refine wl_nil ?_
   refine wc_ret ?_
   first
     | exact ⟨_, res1 rfl rfl, congrArg Value.bool (decide_eq_true (by unfold nodeOk at hn; omega)), H2.pm (Pm.nil _)⟩
     | exact absurd hn (by unfold nodeOk; omega)
  have c0p := oF c0
  refine wcR ?_
  refine wV (v_eql rfl rfl) ?_
  refine wA ?_
  refine wl_nil ?_
  refine wc_cond rfl (fun c1 => ?_) (fun c1 => ?_)
  ·have c1p := oT c1
   refine wcR ?_
   refine wV (v_fb (o2 := 2) fa69_2 rfl rfl) ?_
   refine wV (v_load one9 rfl (H2.at (by repeat constructor) rfl)) ?_
   refine wV (v_eql0 rfl rfl) ?_
   refine wM ?_
   refine wl_guard rfl rfl rfl (fun g26 => ?_) (fun g26 => ?_)
   rotate_left
   ·have g26p := oF g26
    refine wF g26 ?_
    refine wF g26 ?_
    refine wF g26 ?_
    refine wV (v_pick_f rfl g26 rfl) ?_
    refine wA ?_
    refine wl_nil ?_
    refine wc_ret ?_
    first
      | exact ⟨_, res1 rfl rfl, congrArg Value.bool (decide_eq_true (by unfold nodeOk at hn; omega)), H2.pm (Pm.nil _)⟩
      | exact absurd hn (by unfold nodeOk; omega)
   have g26p := oT g26
   refine wV (v_fb (o2 := 3) fa69_3 rfl rfl) ?_
   refine wO g26 ?_
   refine wV (v_load one67 rfl (H2.at (by repeat constructor) rfl)) ?_
   refine wO g26 ?_
   refine wV (v_len Try.underlying67 rfl) ?_
   refine wO g26 ?_
   refine wV (v_eql rfl rfl) ?_
   refine wV (v_pick_t rfl g26 rfl) ?_
   refine wA ?_
   refine wl_nil ?_
   refine wc_ret ?_
   first
     | exact ⟨_, res1 rfl rfl, congrArg Value.bool (decide_eq_true (by unfold nodeOk at hn; omega)), H2.pm (Pm.nil _)⟩
     | exact absurd hn (by unfold nodeOk; omega)
  have c1p := oF c1
  refine wcR ?_
  refine wV (v_eql rfl rfl) ?_
  refine wA ?_
  refine wl_nil ?_
  refine wc_cond rfl (fun c2 => ?_) (fun c2 => ?_)
  rotate_left
  ·have c2p := oF c2
   refine wcR ?_
   refine wV (v_eql rfl rfl) ?_
   refine wA ?_
   refine wl_nil ?_
   refine wc_cond rfl (fun c3 => ?_) (fun c3 => ?_)
   rotate_left
   ·have c3p := oF c3
    refine wc_skip ?_
    refine wcR ?_
    refine wA ?_
    refine wl_nil ?_
    refine wc_ret ?_
    first
      | exact ⟨_, res1 rfl rfl, congrArg Value.bool (decide_eq_true (by unfold nodeOk at hn; omega)), H2.pm (Pm.nil _)⟩
      | exact absurd hn (by unfold nodeOk; omega)
   have c3p := oT c3
   refine wcR ?_
   refine wV (v_fb (o2 := 1) fa69_1 rfl rfl) ?_
   refine wV (v_load one3 rfl (H2.at (by repeat constructor) rfl)) ?_
   refine wV (v_eql rfl rfl) ?_
   refine wA ?_
   refine wl_nil ?_
   refine wc_ret ?_
   first
     | exact ⟨_, res1 rfl rfl, congrArg Value.bool (decide_eq_true (by unfold nodeOk at hn; omega)), H2.pm (Pm.nil _)⟩
     | exact absurd hn (by unfold nodeOk; omega)
  have c2p := oT c2
  refine wcR ?_
  refine wV (v_fb (o2 := 1) fa69_1 rfl rfl) ?_
  refine wV (v_load one3 rfl (H2.at (by repeat constructor) rfl)) ?_
  refine wV (v_eql rfl rfl) ?_
  refine wM ?_
  refine wl_guard rfl rfl rfl (fun g37 => ?_) (fun g37 => ?_)
  rotate_left
  ·have g37p := oF g37
   refine wF g37 ?_
   refine wF g37 ?_
   refine wF g37 ?_
   refine wV (v_pick_f rfl g37 rfl) ?_
   refine wA ?_
   refine wl_nil ?_
   refine wc_ret ?_
   first
     | exact ⟨_, res1 rfl rfl, congrArg Value.bool (decide_eq_true (by unfold nodeOk at hn; omega)), H2.pm (Pm.nil _)⟩
     | exact absurd hn (by unfold nodeOk; omega)
  have g37p := oT g37
  refine wV (v_fb (o2 := 3) fa69_3 rfl rfl) ?_
  refine wO g37 ?_
  refine wV (v_load one67 rfl (H2.at (by repeat constructor) rfl)) ?_
  refine wO g37 ?_
  refine wV (v_len Try.underlying67 rfl) ?_
  refine wO g37 ?_
  refine wV (v_eql rfl rfl) ?_
  refine wV (v_pick_t rfl g37 rfl) ?_
  refine wA ?_
  refine wl_nil ?_
  refine wc_ret ?_
  first
    | exact ⟨_, res1 rfl rfl, congrArg Value.bool (decide_eq_true (by unfold nodeOk at hn; omega)), H2.pm (Pm.nil _)⟩
    | exact absurd hn (by unfold nodeOk; omega)

def RightsOk (t : Ac) : Prop := ∀ (w : World) (B : Option Addr) (k : Nat) (syms : Int) (hr : Rd (kTr fAc) w B t.kids) (hall : t.All (nodeOk syms)) (hcn : t.cnt ≤ 1099511627776), Calls Try.prog 37 #[.agg #[.int .i64 t.x.kind, .int .i64 t.x.at_, .string t.x.name, .slice B t.kids.length k], .int .i64 syms] w fun e w' => ∃ v, e = .returned v ∧ v = .bool true ∧ Holds w [] w'

set_option maxHeartbeats 3200000 in
set_option maxRecDepth 100000 in
theorem rights_step {w : World} {B : Option Addr} {k : Nat} {syms : Int} {t : Ac} (hr : Rd (kTr fAc) w B t.kids) (hall : t.All (nodeOk syms)) (hcn : t.cnt ≤ 1099511627776) (ih : ∀ t' ∈ t.kids, RightsOk t') : Calls Try.prog 37 #[.agg #[.int .i64 t.x.kind, .int .i64 t.x.at_, .string t.x.name, .slice B t.kids.length k], .int .i64 syms] w fun e w' => ∃ v, e = .returned v ∧ v = .bool true ∧ Holds w [] w' := by
  obtain ⟨hn, hks⟩ := (Tr.All_eq t).1 hall
  have hcnt := Tr.cnt_eq t
  have hkl := Tr.cnts_len t.kids
  refine calls_of Try.func37 rfl Try.ntmps37 rfl ?_
  have H := Holds.start w
  refine wcR ?_
  refine wl_box (cs := [_, _, _, _]) H rfl rfl rfl ?_
  intro b2 w1 hb2 H2
  refine wA ?_
  refine wl_nil ?_
  refine wc_seq ?_
  refine wc_cut (σ := Unit) (fun q => [(1, .int .i64 syms), (2, .pointer (some ⟨b2, 0, none⟩)), (25, .bool false)]) (fun q W => Holds w [Blk b2 69 [.int .i64 t.x.kind, .int .i64 t.x.at_, .string t.x.name, .slice B t.kids.length k]] W) ?_ ?_
  rotate_left
  ·rintro ⟨⟩ Wm H
   refine wc_cond_f rfl ?_
   refine wc_skip ?_
   refine wc_seq ?_
   refine wcR ?_
   refine wV (v_fb (o2 := 3) fa69_3 rfl rfl) ?_
   refine wV (v_load one67 rfl (H.at (by repeat constructor) rfl)) ?_
   refine wV (v_len Try.underlying67 rfl) ?_
   refine wM ?_
   refine wl_nil ?_
   refine wc_block ?_
   refine wc_loop (σ := Nat) (fun s => [(1, .int .i64 syms), (2, .pointer (some ⟨b2, 0, none⟩)), (27, .slice B t.kids.length k), (28, .int .i64 t.kids.length), (29, .int .i64 s)]) (fun s W => s ≤ t.kids.length ∧ Holds w [Blk b2 69 [.int .i64 t.x.kind, .int .i64 t.x.at_, .string t.x.name, .slice B t.kids.length k]] W) (fun s => t.kids.length - s) 0 (sc rfl (sc rfl (sc rfl (sc rfl (sc rfl (sn _)))))) ⟨Nat.zero_le _, H⟩ ?_
   rintro i W0 ⟨hi, H⟩
   refine wcR ?_
   refine wV (v_lss rfl rfl) ?_
   refine wl_nil ?_
   refine wc_seq ?_
   refine wc_cond rfl (fun c1 => ?_) (fun c1 => ?_)
   rotate_left
   ·have c1p := oF c1
    refine wc_exit ?_
    refine wcR ?_
    refine wA ?_
    refine wl_nil ?_
    refine wc_ret ?_
    exact ⟨_, res1 rfl rfl, rfl, H.pm (Pm.nil _)⟩
   have c1p := oT c1
   refine wc_skip ?_
   refine wc_seq ?_
   refine wc_block ?_
   refine wcR ?_
   refine wV (v_idx Try.underlying67 sz69 hr.ad rfl rfl (by omega) (by omega)) ?_
   obtain ⟨B32_, k32_, hc32_, hl32_, hr32_⟩ := hr.atTr ac0 (i := i) (by omega)
   refine wV (v_loadN (cs := [.int .i64 (t.kids.getD i ac0).x.kind, .int .i64 (t.kids.getD i ac0).x.at_, .string (t.kids.getD i ac0).x.name, .slice B32_ (t.kids.getD i ac0).kids.length k32_]) agg69 rfl rfl (fun q_ u_ hu_ => H.cell (hc32_ q_ u_ hu_))) ?_
   refine wl_alloc (cs := [.int .i64 0, .int .i64 0, .string ⟨#[]⟩, .slice none 0 0]) H rfl zv69 rfl ?_
   intro b6 w6 hb6 H7
   refine wl_store (vs := [_, _, _, _]) H7 (by repeat constructor) sz69 rfl rfl rfl rfl rfl (by (repeat constructor)) ?_
   intro w8 H9 hw8
   refine wl_nil ?_
   refine wcR ?_
   refine wV (v_loadN agg69 rfl rfl (H9.ats (by repeat constructor))) ?_
   refine wM ?_
   refine wl_call en37 rfl rfl (ih _ (getD_mem (z := ac0) (show i < t.kids.length by omega)) _ _ _ syms (hr32_.below H9.old) (Tr.Alls_at ac0 (by omega) hks) (by have h_ := Tr.cnts_succ ac0 t.kids i (by omega); have h2_ := Tr.cnts_take t.kids (i + 1); omega)) ?_
   rintro _ w10 ⟨rfl, Hc⟩
   have H11 := H9.call0 Hc
   refine wV (v_not rfl) ?_
   refine wl_nil ?_
   refine wc_cond_f rfl ?_
   refine wc_skip ?_
   refine wc_region ?_
   refine wV (v_addi rfl rfl (by omega)) ?_
   refine wM ?_
   refine wl_nil ?_
   exact ⟨i + 1, (sc rfl (sc rfl (sc rfl (sc rfl (sc rfl (sn _)))))), ⟨by omega, H11.pm (by repeat constructor)⟩, by omega⟩
  refine wc_region ?_
  refine wV (v_loadN agg69 rfl rfl (H2.ats (by repeat constructor))) ?_
  refine wl_call en63 rfl rfl (plain_calls hn) ?_
  rintro _ w3 ⟨rfl, Hc⟩
  have H4 := H2.call0 Hc
  refine wV (v_not rfl) ?_
  refine wM ?_
  refine wO rfl ?_
  refine wV (v_fb (o2 := 0) fa69_0 rfl rfl) ?_
  refine wO rfl ?_
  refine wV (v_load one3 rfl (H4.at (by repeat constructor) rfl)) ?_
  refine wO rfl ?_
  refine wV (v_eql rfl rfl) ?_
  refine wO rfl ?_
  refine wM ?_
  refine wl_guard rfl rfl rfl (fun g14 => ?_) (fun g14 => ?_)
  rotate_left
  ·have g14p := oF g14
   refine wF g14 ?_
   refine wF g14 ?_
   refine wF g14 ?_
   refine wl_offu rfl rfl rfl ?_
   refine wl_offu rfl rfl rfl ?_
   refine wl_offu rfl rfl rfl ?_
   refine wl_offu rfl rfl rfl ?_
   refine wF g14 ?_
   refine wO rfl ?_
   refine wV (v_pick_f rfl g14 rfl) ?_
   refine wV (v_pick_f rfl rfl rfl) ?_
   refine wl_nil ?_
   first
     | exact ⟨(), (sc rfl (sc rfl (sc rfl (sn _)))), H4.pm (by repeat constructor)⟩
     | (have e_ : (decide (t.x.at_ ≥ syms)) = false := decide_eq_false (by unfold nodeOk at hn; omega)
        rw [e_]
        exact ⟨(), (sc rfl (sc rfl (sc rfl (sn _)))), H4.pm (by repeat constructor)⟩)
     | exact absurd hn (by unfold nodeOk; omega)
  have g14p := oT g14
  refine wV (v_fb (o2 := 1) fa69_1 rfl rfl) ?_
  refine wO g14 ?_
  refine wV (v_load one3 rfl (H4.at (by repeat constructor) rfl)) ?_
  refine wO g14 ?_
  refine wV (v_lss rfl rfl) ?_
  refine wO g14 ?_
  refine wM ?_
  refine wl_guard rfl rfl rfl (fun g18 => ?_) (fun g18 => ?_)
  rotate_left
  ·have g18p := oT g18
   refine wF g18 ?_
   refine wF g18 ?_
   refine wF g18 ?_
   refine wO g14 ?_
   refine wV (v_pick_t rfl g18 rfl) ?_
   refine wO rfl ?_
   refine wV (v_pick_t rfl g14 rfl) ?_
   refine wV (v_pick_f rfl rfl rfl) ?_
   refine wl_nil ?_
   first
     | exact ⟨(), (sc rfl (sc rfl (sc rfl (sn _)))), H4.pm (by repeat constructor)⟩
     | (have e_ : (decide (t.x.at_ ≥ syms)) = false := decide_eq_false (by unfold nodeOk at hn; omega)
        rw [e_]
        exact ⟨(), (sc rfl (sc rfl (sc rfl (sn _)))), H4.pm (by repeat constructor)⟩)
     | exact absurd hn (by unfold nodeOk; omega)
  have g18p := oF g18
  refine wV (v_fb (o2 := 1) fa69_1 rfl rfl) ?_
  refine wO g18 ?_
  refine wV (v_load one3 rfl (H4.at (by repeat constructor) rfl)) ?_
  refine wO g18 ?_
  refine wM ?_
  refine wO g18 ?_
  refine wV (v_geq rfl rfl) ?_
  refine wO g14 ?_
  refine wV (v_pick_f rfl g18 rfl) ?_
  refine wO rfl ?_
  refine wV (v_pick_t rfl g14 rfl) ?_
  refine wV (v_pick_f rfl rfl rfl) ?_
  refine wl_nil ?_
  first
    | exact ⟨(), (sc rfl (sc rfl (sc rfl (sn _)))), H4.pm (by repeat constructor)⟩
    | (have e_ : (decide (t.x.at_ ≥ syms)) = false := decide_eq_false (by unfold nodeOk at hn; omega)
       rw [e_]
       exact ⟨(), (sc rfl (sc rfl (sc rfl (sn _)))), H4.pm (by repeat constructor)⟩)
    | exact absurd hn (by unfold nodeOk; omega)

theorem rights_calls : ∀ t : Ac, RightsOk t := Tr.ind fun x kids ih => fun w B k syms hr hall hcn => rights_step (t := .mk x kids) hr hall hcn ih
theorem look_bool (f : Int → Option Bool) (i : Int) : ((f i).map Value.bool).getD (.bool false) = .bool ((f i).getD false) := by cases f i <;> rfl

set_option maxHeartbeats 6400000 in
set_option maxRecDepth 100000 in
theorem pvalue_calls {g : Pl} {a : PlA} {row : List Int} {w : World} {A B : Option Addr} {k cr : Nat} {d : Dv} (hg : g.ok) (hrg : g.rd w a) (hr : Rd (kTr fDv) w B d.kids) (hR : Rd (kInt .i64) w A row) (hl : row.length ≤ 1099511627776) (hcn : d.cnt ≤ 1099511627776) :
    Calls Try.prog 16 #[.agg #[.slice a.k g.kinds.length a.ck, .slice a.p g.precs.length a.cp, .slice a.r g.rules.length a.cr, .slice a.q g.prods.length a.cq, .int .i64 g.start], .agg #[.int .i64 d.x.prod, .int .i64 d.x.tok, .slice B d.kids.length k], .slice A row.length cr] w fun e w' => ∃ v, e = .returned v ∧ ∃ A' c', v = .tuple #[.agg #[.int .i64 (valR g d row).x.kind, .string (valR g d row).x.name, .int .i64 (valR g d row).x.tok, .slice A' (valR g d row).kids.length c'], .int .i64 (valE g d row)] ∧ Holds w [ORow fNd 24 (.slice A' (valR g d row).kids.length c') (valR g d row).kids] w' := by
  have hgk := hg.k
  have hgr := hg.r
  have hgq := hg.q
  refine calls_of Try.func16 rfl Try.ntmps16 rfl ?_
  have H := Holds.start w
  refine wcR ?_
  refine wl_box (cs := [_, _, _, _, _]) H rfl rfl rfl ?_
  intro b3 w1 hb3 H2
  refine wl_box (cs := [_, _, _]) H2 rfl rfl rfl ?_
  intro b4 w3 hb4 H4
  refine wl_alloc (cs := [.int .i64 0, .string ⟨#[]⟩, .int .i64 0, .slice none 0 0]) H4 rfl zv24 rfl ?_
  intro b6 w5 hb6 H6
  refine wA ?_
  refine wl_nil ?_
  refine wc_seq ?_
  refine wcR ?_
  refine wV (v_loadN agg44 rfl rfl (H6.ats (by repeat constructor))) ?_
  refine wl_call en34 rfl rfl (gcheck_calls (hrg.below H6.old) hg) ?_
  rintro _ w7 ⟨rfl, Hc⟩
  have H8 := H6.call0 Hc
  refine wV (v_neq rfl rfl) ?_
  refine wl_nil ?_
  refine wc_cond rfl (fun c0 => ?_) (fun c0 => ?_)
  ·have c0p := of_nd_t c0
   refine wcR ?_
   refine wV (v_bld ba24 rfl (by repeat constructor)) ?_
   refine wl_store (vs := [_, _, _, _]) H8 (by repeat constructor) sz24 rfl rfl rfl rfl rfl (by (repeat constructor)) ?_
   intro w9 H10 hw9
   refine wA ?_
   refine wl_nil ?_
   refine wc_ret ?_
   first
     | (have q_ := Ax
        obtain ⟨e1_, e2_⟩ := valE_ok hD (show (valD g d).cnt ≤ 65536 by (have e_ := leftN_f (most := 65536) (t := valD g d); omega))
        rw [e1_, e2_]
        exact ⟨_, resc2 rfl rfl (run_loadVarN agg24 rfl (H10.ats (by repeat constructor))) rfl, Ax, cx, rfl, H10.pm (by repeat constructor)⟩)
     | (have q_ := An
        obtain ⟨e1_, e2_⟩ := valE_many hD (show ¬ (valD g d).cnt ≤ 65536 by (have e_ := leftN_t (most := 65536) (t := valD g d); omega))
        rw [e1_, e2_]
        exact ⟨_, resc2 rfl rfl (run_loadVarN agg24 rfl (H10.ats (by repeat constructor))) rfl, none, 0, rfl, (H10.oNil fNd 24).pm (by repeat constructor)⟩)
     | (have q_ := hG
        obtain ⟨e1_, e2_⟩ := valE_none hG (of_ndec (of_n_t c1))
        rw [e1_, e2_]
        exact ⟨_, resc2 rfl rfl (run_loadVarN agg24 rfl (H10.ats (by repeat constructor))) rfl, none, 0, rfl, (H10.oNil fNd 24).pm (by repeat constructor)⟩)
     | (obtain ⟨e1_, e2_⟩ := valE_plain (d := d) (row := row) (show ¬ GOk g from fun hh => (by have h_ := checkG_t hh; omega))
        rw [e1_, e2_]
        exact ⟨_, resc2 rfl rfl (run_loadVarN agg24 rfl (H10.ats (by repeat constructor))) rfl, none, 0, rfl, (H10.oNil fNd 24).pm (by repeat constructor)⟩)
  have c0p := of_nd_f c0
  have hG : GOk g := Classical.byContradiction fun h_ => (by have e_ := checkG_f h_; omega)
  refine wc_skip ?_
  refine wc_seq ?_
  refine wcR ?_
  refine wV (v_loadN agg44 rfl rfl (H8.ats (by repeat constructor))) ?_
  refine wV (v_loadN agg50 rfl rfl (H8.ats (by repeat constructor))) ?_
  refine wM ?_
  refine wl_call en35 rfl rfl (dcheck_calls hg (hrg.below H8.old) (hr.below H8.old) (hR.below H8.old) hl hcn) ?_
  rintro _ w11 ⟨rfl, Hc⟩
  have H12 := H8.call0 Hc
  refine wV (v_not rfl) ?_
  refine wl_nil ?_
  refine wc_cond rfl (fun c1 => ?_) (fun c1 => ?_)
  ·have c1p := of_n_t c1
   refine wcR ?_
   refine wV (v_bld ba24 rfl (by repeat constructor)) ?_
   refine wl_store (vs := [_, _, _, _]) H12 (by repeat constructor) sz24 rfl rfl rfl rfl rfl (by (repeat constructor)) ?_
   intro w13 H14 hw13
   refine wA ?_
   refine wl_nil ?_
   refine wc_ret ?_
   first
     | (have q_ := Ax
        obtain ⟨e1_, e2_⟩ := valE_ok hD (show (valD g d).cnt ≤ 65536 by (have e_ := leftN_f (most := 65536) (t := valD g d); omega))
        rw [e1_, e2_]
        exact ⟨_, resc2 rfl rfl (run_loadVarN agg24 rfl (H14.ats (by repeat constructor))) rfl, Ax, cx, rfl, H14.pm (by repeat constructor)⟩)
     | (have q_ := An
        obtain ⟨e1_, e2_⟩ := valE_many hD (show ¬ (valD g d).cnt ≤ 65536 by (have e_ := leftN_t (most := 65536) (t := valD g d); omega))
        rw [e1_, e2_]
        exact ⟨_, resc2 rfl rfl (run_loadVarN agg24 rfl (H14.ats (by repeat constructor))) rfl, none, 0, rfl, (H14.oNil fNd 24).pm (by repeat constructor)⟩)
     | (have q_ := hG
        obtain ⟨e1_, e2_⟩ := valE_none hG (of_ndec (of_n_t c1))
        rw [e1_, e2_]
        exact ⟨_, resc2 rfl rfl (run_loadVarN agg24 rfl (H14.ats (by repeat constructor))) rfl, none, 0, rfl, (H14.oNil fNd 24).pm (by repeat constructor)⟩)
     | (obtain ⟨e1_, e2_⟩ := valE_plain (d := d) (row := row) (show ¬ GOk g from fun hh => (by have h_ := checkG_t hh; omega))
        rw [e1_, e2_]
        exact ⟨_, resc2 rfl rfl (run_loadVarN agg24 rfl (H14.ats (by repeat constructor))) rfl, none, 0, rfl, (H14.oNil fNd 24).pm (by repeat constructor)⟩)
  have c1p := of_n_f c1
  have hD : DrvOk g d row := of_dec (of_n_f c1)
  have hact := hG.acts
  refine wc_skip ?_
  refine wcR ?_
  refine wl_mkmap KI Value.bool H12 rfl ?_
  intro b8 w15 hb8 H15
  refine wA ?_
  refine wl_nil ?_
  refine wcR ?_
  refine wV (v_loadN agg50 rfl rfl (H15.ats (by repeat constructor))) ?_
  refine wM ?_
  refine wl_call en36 rfl rfl (uses_calls hgq d w _ _ B b8 k 0 (fun _ => none) hr hD.dv (by omega) (H15.turn (A := Mp KI Value.bool b8 0 (fun _ => none)) (by repeat constructor))) ?_
  rintro _ w16 ⟨f2, Hc⟩
  refine wl_nil ?_
  refine wcR ?_
  refine wV (v_bld ba105 rfl (by repeat constructor)) ?_
  refine wl_box (cs := [_]) Hc rfl rfl rfl ?_
  intro b28 w17 hb28 H18
  refine wA ?_
  refine wl_nil ?_
  refine wc_seq ?_
  refine wcR ?_
  refine wV (v_fb (o2 := 3) fa44_3 rfl rfl) ?_
  refine wV (v_load one42 rfl (H18.at (by repeat constructor) rfl)) ?_
  refine wV (v_len Try.underlying42 rfl) ?_
  refine wM ?_
  refine wl_nil ?_
  refine wc_block ?_
  refine wc_loop (σ := Nat × Option Addr × Nat) (fun s => [(3, .pointer (some ⟨b3, 0, none⟩)), (4, .pointer (some ⟨b4, 0, none⟩)), (6, .pointer (some ⟨b6, 0, none⟩)), (7, .int .i64 0), (8, .map (some b8)), (9, .pointer (some ⟨b28, 0, none⟩)), (30, .slice a.q g.prods.length a.cq), (31, .int .i64 g.prods.length), (32, .int .i64 s.1)]) (fun s W => s.1 ≤ g.prods.length ∧ Holds w [Blk b28 105 [.slice s.2.1 ((g.prods.take s.1).map Pr.act).length s.2.2], FRow krFc w no 107 (.slice s.2.1 ((g.prods.take s.1).map Pr.act).length s.2.2) ((g.prods.take s.1).map Pr.act), Mp KI Value.bool b8 (0 + d.cnt) f2, Blk b6 24 [.int .i64 0, .string ⟨#[]⟩, .int .i64 0, .slice none 0 0], Blk b4 50 [.int .i64 d.x.prod, .int .i64 d.x.tok, .slice B d.kids.length k], Blk b3 44 [.slice a.k g.kinds.length a.ck, .slice a.p g.precs.length a.cp, .slice a.r g.rules.length a.cr, .slice a.q g.prods.length a.cq, .int .i64 g.start]] W) (fun s => g.prods.length - s.1) (0, none, 0) (sc rfl (sc rfl (sc rfl (sc rfl (sc rfl (sc rfl (sc rfl (sc rfl (sc rfl (sn _)))))))))) ⟨Nat.zero_le _, (H18.frNil krFc w no 107).pm (by repeat constructor)⟩ ?_
  rintro ⟨i, Az, cz⟩ W0 ⟨hi, H⟩
  dsimp only at hi H ⊢
  refine wcR ?_
  refine wV (v_lss rfl rfl) ?_
  refine wl_nil ?_
  refine wc_seq ?_
  refine wc_cond rfl (fun c2 => ?_) (fun c2 => ?_)
  rotate_left
  ·have c2p := oF c2
   rw [List.take_of_length_le (show g.prods.length ≤ i by omega)] at H
   refine wc_exit ?_
   refine wcR ?_
   refine wM ?_
   refine wV (v_loadN agg50 rfl rfl (H.ats (by repeat constructor))) ?_
   refine wl_call en39 rfl rfl (value_calls hgq hact d _ B Az b28 k cz (by (have h_ := H.ats (b := b28) (cs := [.slice Az (g.prods.map Pr.act).length cz]) (by repeat constructor); rw [List.length_map] at h_; intro j u hu; have h2_ := h_ j u hu; rwa [Addr.add_lit, Nat.zero_add] at h2_)) (H.frRd (d := krFc) (xs := g.prods.map Pr.act) (A := Az) (by repeat constructor)).rd (hr.below H.old) hD.dv hcn) ?_
   rintro _ w38 ⟨An, cn, rfl, Hc⟩
   have H39 := H.callN1 (fun _ h_ => h_.elim) Hc
   refine wl_alloc (cs := [.int .i64 0, .string ⟨#[]⟩, .int .i64 0, .slice none 0 0]) H39 rfl zv24 rfl ?_
   intro b12 w40 hb12 H41
   refine wl_store (vs := [_, _, _, _]) H41 (by repeat constructor) sz24 rfl rfl rfl rfl rfl (by (repeat constructor)) ?_
   intro w42 H43 hw42
   refine wl_nil ?_
   refine wc_seq ?_
   refine wcR ?_
   refine wV (v_loadN agg24 rfl rfl (H43.ats (by repeat constructor))) ?_
   refine wl_call en40 rfl rfl (left_calls (valD g d) _ An cn 65536 (H43.nxRd (t := valD g d) (A := An) (c := cn) (by repeat constructor)) (by omega) (valD_few hact d hD.dv)) ?_
   rintro _ w44 ⟨rfl, Hc⟩
   have H45 := H43.call0 Hc
   refine wV (v_lss rfl rfl) ?_
   refine wl_nil ?_
   refine wc_cond rfl (fun c4 => ?_) (fun c4 => ?_)
   ·have c4p := oT c4
    refine wcR ?_
    refine wV (v_bld ba24 rfl (by repeat constructor)) ?_
    refine wl_store (vs := [_, _, _, _]) H45 (by repeat constructor) sz24 rfl rfl rfl rfl rfl (by (repeat constructor)) ?_
    intro w46 H47 hw46
    refine wA ?_
    refine wl_nil ?_
    refine wc_ret ?_
    first
      | (have q_ := Ax
         obtain ⟨e1_, e2_⟩ := valE_ok hD (show (valD g d).cnt ≤ 65536 by (have e_ := leftN_f (most := 65536) (t := valD g d); omega))
         rw [e1_, e2_]
         exact ⟨_, resc2 rfl rfl (run_loadVarN agg24 rfl (H47.ats (by repeat constructor))) rfl, Ax, cx, rfl, H47.pm (by repeat constructor)⟩)
      | (have q_ := An
         obtain ⟨e1_, e2_⟩ := valE_many hD (show ¬ (valD g d).cnt ≤ 65536 by (have e_ := leftN_t (most := 65536) (t := valD g d); omega))
         rw [e1_, e2_]
         exact ⟨_, resc2 rfl rfl (run_loadVarN agg24 rfl (H47.ats (by repeat constructor))) rfl, none, 0, rfl, (H47.oNil fNd 24).pm (by repeat constructor)⟩)
      | (have q_ := hG
         obtain ⟨e1_, e2_⟩ := valE_none hG (of_ndec (of_n_t c1))
         rw [e1_, e2_]
         exact ⟨_, resc2 rfl rfl (run_loadVarN agg24 rfl (H47.ats (by repeat constructor))) rfl, none, 0, rfl, (H47.oNil fNd 24).pm (by repeat constructor)⟩)
      | (obtain ⟨e1_, e2_⟩ := valE_plain (d := d) (row := row) (show ¬ GOk g from fun hh => (by have h_ := checkG_t hh; omega))
         rw [e1_, e2_]
         exact ⟨_, resc2 rfl rfl (run_loadVarN agg24 rfl (H47.ats (by repeat constructor))) rfl, none, 0, rfl, (H47.oNil fNd 24).pm (by repeat constructor)⟩)
   have c4p := oF c4
   refine wc_skip ?_
   refine wcR ?_
   refine wV (v_loadN agg24 rfl rfl (H45.ats (by repeat constructor))) ?_
   refine wl_call en41 rfl rfl (copied_calls (valD g d) _ An cn (H45.nxRd (t := valD g d) (A := An) (c := cn) (by repeat constructor)) (valD_few hact d hD.dv)) ?_
   rintro _ w48 ⟨Ax, cx, rfl, Hc⟩
   have H49 := H45.call1 Hc
   refine wl_store (vs := [_, _, _, _]) H49 (by repeat constructor) sz24 rfl rfl rfl rfl rfl (by (repeat constructor)) ?_
   intro w50 H51 hw50
   refine wA ?_
   refine wl_nil ?_
   refine wc_ret ?_
   first
     | (have q_ := Ax
        obtain ⟨e1_, e2_⟩ := valE_ok hD (show (valD g d).cnt ≤ 65536 by (have e_ := leftN_f (most := 65536) (t := valD g d); omega))
        rw [e1_, e2_]
        exact ⟨_, resc2 rfl rfl (run_loadVarN agg24 rfl (H51.ats (by repeat constructor))) rfl, Ax, cx, rfl, H51.pm (by repeat constructor)⟩)
     | (have q_ := An
        obtain ⟨e1_, e2_⟩ := valE_many hD (show ¬ (valD g d).cnt ≤ 65536 by (have e_ := leftN_t (most := 65536) (t := valD g d); omega))
        rw [e1_, e2_]
        exact ⟨_, resc2 rfl rfl (run_loadVarN agg24 rfl (H51.ats (by repeat constructor))) rfl, none, 0, rfl, (H51.oNil fNd 24).pm (by repeat constructor)⟩)
     | (have q_ := hG
        obtain ⟨e1_, e2_⟩ := valE_none hG (of_ndec (of_n_t c1))
        rw [e1_, e2_]
        exact ⟨_, resc2 rfl rfl (run_loadVarN agg24 rfl (H51.ats (by repeat constructor))) rfl, none, 0, rfl, (H51.oNil fNd 24).pm (by repeat constructor)⟩)
     | (obtain ⟨e1_, e2_⟩ := valE_plain (d := d) (row := row) (show ¬ GOk g from fun hh => (by have h_ := checkG_t hh; omega))
        rw [e1_, e2_]
        exact ⟨_, resc2 rfl rfl (run_loadVarN agg24 rfl (H51.ats (by repeat constructor))) rfl, none, 0, rfl, (H51.oNil fNd 24).pm (by repeat constructor)⟩)
  have c2p := oT c2
  have hin : i < g.prods.length := by omega
  refine wc_skip ?_
  refine wc_seq ?_
  refine wc_block ?_
  refine wcR ?_
  refine wM ?_
  refine wV (v_idx Try.underlying42 sz73 hrg.q.ad rfl rfl (by omega) (by omega)) ?_
  obtain ⟨R36_, c36_, B36_, k36_, hc36_, hl36_, hR36_, hB36_⟩ := hrg.q.atPr (i := i) (by omega)
  refine wV (v_loadN (cs := [.int .i64 (g.prods.getD i pr0).left, .slice R36_ (g.prods.getD i pr0).right.length c36_, .int .i64 (g.prods.getD i pr0).level, .int .i64 (g.prods.getD i pr0).act.x.kind, .int .i64 (g.prods.getD i pr0).act.x.at_, .string (g.prods.getD i pr0).act.x.name, .slice B36_ (g.prods.getD i pr0).act.kids.length k36_]) agg73 rfl rfl (fun q_ u_ hu_ => H.cell (hc36_ q_ u_ hu_))) ?_
  refine wl_alloc (cs := [.int .i64 0, .slice none 0 0, .int .i64 0, .int .i64 0, .int .i64 0, .string ⟨#[]⟩, .slice none 0 0]) H rfl zv73 rfl ?_
  intro b11 w19 hb11 H20
  refine wA ?_
  refine wl_store (vs := [_, _, _, _, _, _, _]) H20 (by repeat constructor) sz73 rfl rfl rfl rfl rfl (by (repeat constructor)) ?_
  intro w21 H22 hw21
  refine wl_nil ?_
  refine wc_seq ?_
  refine wc_cut (σ := Unit) (fun q => [(3, .pointer (some ⟨b3, 0, none⟩)), (4, .pointer (some ⟨b4, 0, none⟩)), (6, .pointer (some ⟨b6, 0, none⟩)), (7, .int .i64 0), (8, .map (some b8)), (9, .pointer (some ⟨b28, 0, none⟩)), (30, .slice a.q g.prods.length a.cq), (31, .int .i64 g.prods.length), (32, .int .i64 i), (11, .pointer (some ⟨b11, 0, none⟩)), (48, .bool false)]) (fun q W => Holds w [Blk b11 73 [.int .i64 (g.prods.getD i pr0).left, .slice R36_ (g.prods.getD i pr0).right.length c36_, .int .i64 (g.prods.getD i pr0).level, .int .i64 (g.prods.getD i pr0).act.x.kind, .int .i64 (g.prods.getD i pr0).act.x.at_, .string (g.prods.getD i pr0).act.x.name, .slice B36_ (g.prods.getD i pr0).act.kids.length k36_], Blk b28 105 [.slice Az ((g.prods.take i).map Pr.act).length cz], FRow krFc w no 107 (.slice Az ((g.prods.take i).map Pr.act).length cz) ((g.prods.take i).map Pr.act), Mp KI Value.bool b8 (0 + d.cnt) f2, Blk b6 24 [.int .i64 0, .string ⟨#[]⟩, .int .i64 0, .slice none 0 0], Blk b4 50 [.int .i64 d.x.prod, .int .i64 d.x.tok, .slice B d.kids.length k], Blk b3 44 [.slice a.k g.kinds.length a.ck, .slice a.p g.precs.length a.cp, .slice a.r g.rules.length a.cr, .slice a.q g.prods.length a.cq, .int .i64 g.start]] W) ?_ ?_
  ·refine wc_region ?_
   refine wM ?_
   refine wM ?_
   refine wV (v_look' H22 (by repeat constructor) Try.underlying100 zv4 (show KI.ok (i : Int) from wf64 (by unfold I64; omega)) rfl rfl (look_bool _ _)) ?_
   refine wM ?_
   refine wl_guard rfl rfl rfl (fun g40 => ?_) (fun g40 => ?_)
   rotate_left
   ·refine wF g40 ?_
    refine wF g40 ?_
    refine wF g40 ?_
    refine wF g40 ?_
    refine wF g40 ?_
    refine wF g40 ?_
    refine wV (v_pick_f rfl g40 rfl) ?_
    refine wl_nil ?_
    exact ⟨(), (sc rfl (sc rfl (sc rfl (sc rfl (sc rfl (sc rfl (sc rfl (sc rfl (sc rfl (sc rfl (sc rfl (sn _)))))))))))), H22.pm (by repeat constructor)⟩
   refine wV (v_fb (o2 := 3) fa73_3 rfl rfl) ?_
   refine wO g40 ?_
   refine wV (v_loadN (cs := [_, _, _, _]) agg69 rfl rfl (H22.atsN (k := 4) (by repeat constructor) rfl)) ?_
   refine wO g40 ?_
   refine wV (v_fb (o2 := 1) fa73_1 rfl rfl) ?_
   refine wO g40 ?_
   refine wV (v_load one51 rfl (H22.at (by repeat constructor) rfl)) ?_
   refine wO g40 ?_
   refine wV (v_len Try.underlying51 rfl) ?_
   refine wO g40 ?_
   refine wl_call en37 rfl rfl (rights_calls _ _ B36_ k36_ _ (hB36_.below H22.old) (hact i (by omega)).1 (by have := (hact i (by omega)).2; omega)) ?_
   rintro _ w24 ⟨rfl, Hc⟩
   have H25 := H22.call0 Hc
   refine wO g40 ?_
   refine wV (v_not rfl) ?_
   refine wV (v_pick_t rfl g40 rfl) ?_
   refine wl_nil ?_
   exact ⟨(), (sc rfl (sc rfl (sc rfl (sc rfl (sc rfl (sc rfl (sc rfl (sc rfl (sc rfl (sc rfl (sc rfl (sn _)))))))))))), H25.pm (by repeat constructor)⟩
  rintro ⟨⟩ Wm H
  refine wc_cond_f rfl ?_
  refine wc_skip ?_
  refine wc_tree [0, 1, 2, 3, 4, 5, 6] (fun W => Holds w [Blk b11 73 [.int .i64 (g.prods.getD i pr0).left, .slice R36_ (g.prods.getD i pr0).right.length c36_, .int .i64 (g.prods.getD i pr0).level, .int .i64 (g.prods.getD i pr0).act.x.kind, .int .i64 (g.prods.getD i pr0).act.x.at_, .string (g.prods.getD i pr0).act.x.name, .slice B36_ (g.prods.getD i pr0).act.kids.length k36_], Blk b28 105 [.slice Az ((g.prods.take i).map Pr.act).length cz], Blk b4 50 [.int .i64 d.x.prod, .int .i64 d.x.tok, .slice B d.kids.length k], Blk b3 44 [.slice a.k g.kinds.length a.ck, .slice a.p g.precs.length a.cp, .slice a.r g.rules.length a.cr, .slice a.q g.prods.length a.cq, .int .i64 g.start]] W) mixed ?_
  have Hd := H.drew
  have HSd : Holds w [Blk b11 73 [.int .i64 (g.prods.getD i pr0).left, .slice R36_ (g.prods.getD i pr0).right.length c36_, .int .i64 (g.prods.getD i pr0).level, .int .i64 (g.prods.getD i pr0).act.x.kind, .int .i64 (g.prods.getD i pr0).act.x.at_, .string (g.prods.getD i pr0).act.x.name, .slice B36_ (g.prods.getD i pr0).act.kids.length k36_], Blk b28 105 [.slice Az ((g.prods.take i).map Pr.act).length cz], Blk b4 50 [.int .i64 d.x.prod, .int .i64 d.x.tok, .slice B d.kids.length k], Blk b3 44 [.slice a.k g.kinds.length a.ck, .slice a.p g.precs.length a.cp, .slice a.r g.rules.length a.cr, .slice a.q g.prods.length a.cq, .int .i64 g.start]] _ := Hd.pm (by repeat constructor)
  refine wjV (k := 0) rfl HSd (fun W HW => v_move rfl) ?_
  refine wjV (k := 1) rfl HSd (fun W HW => v_move rfl) ?_
  refine wjV (k := 2) rfl HSd (fun W HW => v_nil rfl) ?_
  refine wjV (k := 3) rfl HSd (fun W HW => v_fb (o2 := 0) fa105_0 rfl rfl) ?_
  refine wjV (k := 4) rfl HSd (fun W HW => v_load one103 rfl (HW.at (by repeat constructor) rfl)) ?_
  refine wjV (k := 5) rfl HSd (fun W HW => v_fb (o2 := 3) fa73_3 rfl rfl) ?_
  refine wjV (k := 6) rfl HSd (fun W HW => v_loadN (cs := [_, _, _, _]) agg69 rfl rfl (HW.atsN (k := 4) (by repeat constructor) rfl)) ?_
  refine wj_t (k := 7) rfl (by kernel_rfl) ?_
  refine wl_call en38 rfl rfl (maker_calls (g.prods.getD i pr0).act _ B36_ k36_ hl36_.2 (hB36_.below Hd.old) (by have := (hact i (by omega)).2; omega)) ?_
  rintro vf w26 Hc
  have H27 := Hd.callN1 (fun _ h_ => h_.elim) Hc
  have hvf1 : vf.oneCell' = true := by
    obtain ⟨_, _, v_, hv_, hk_⟩ := Hc.get (A := NX krFc _ no (g.prods.getD i pr0).act [vf]) (.here _ _ _)
    cases hv_
    exact hk_.one
  have HS28 : Holds w [Blk b11 73 [.int .i64 (g.prods.getD i pr0).left, .slice R36_ (g.prods.getD i pr0).right.length c36_, .int .i64 (g.prods.getD i pr0).level, .int .i64 (g.prods.getD i pr0).act.x.kind, .int .i64 (g.prods.getD i pr0).act.x.at_, .string (g.prods.getD i pr0).act.x.name, .slice B36_ (g.prods.getD i pr0).act.kids.length k36_], Blk b28 105 [.slice Az ((g.prods.take i).map Pr.act).length cz], Blk b4 50 [.int .i64 d.x.prod, .int .i64 d.x.tok, .slice B d.kids.length k], Blk b3 44 [.slice a.k g.kinds.length a.ck, .slice a.p g.precs.length a.cp, .slice a.r g.rules.length a.cr, .slice a.q g.prods.length a.cq, .int .i64 g.start]] _ := H27.pm (by repeat constructor)
  refine wl_nil (tn ⟨fun _ => HS28, ?_⟩)
  refine wj_t (k := 8) rfl (by kernel_rfl) ?_
  refine wl_slit (v := .nilFunc) (z := [.nilFunc]) (cs := [vf]) (sz := 1) H27 rfl Try.underlying103 sz107 zv107 (by decide) (by decide) (by kernel_rfl) rfl (.cons (vs := [vf]) rfl (cells_one hvf1) rfl (.here _ (.nil _)) (.nil _)) ?_
  intro b58 w29 hb58 H29 hs29
  have HS30 : Holds w [Blk b11 73 [.int .i64 (g.prods.getD i pr0).left, .slice R36_ (g.prods.getD i pr0).right.length c36_, .int .i64 (g.prods.getD i pr0).level, .int .i64 (g.prods.getD i pr0).act.x.kind, .int .i64 (g.prods.getD i pr0).act.x.at_, .string (g.prods.getD i pr0).act.x.name, .slice B36_ (g.prods.getD i pr0).act.kids.length k36_], Blk b28 105 [.slice Az ((g.prods.take i).map Pr.act).length cz], Blk b4 50 [.int .i64 d.x.prod, .int .i64 d.x.tok, .slice B d.kids.length k], Blk b3 44 [.slice a.k g.kinds.length a.ck, .slice a.p g.precs.length a.cp, .slice a.r g.rules.length a.cr, .slice a.q g.prods.length a.cq, .int .i64 g.start]] _ := H29.pm (by repeat constructor)
  refine wl_nil (tn ⟨fun _ => HS30, ?_⟩)
  refine wj_t (k := 9) rfl (by kernel_rfl) ?_
  refine wl_appF (d := krFc) (cs := [vf]) (x' := (g.prods.getD i pr0).act) H29 (by repeat constructor) (by repeat constructor) (H29.ats (by repeat constructor)) rfl Try.underlying103 info107 rfl (by decide) rfl rfl (by rw [map_take_len _ hi]; omega) (by decide) ?_
  intro A59 c59 w31 H31 hs31
  rw [← map_succ Pr.act pr0 hin] at H31 ⊢
  have HS32 : Holds w [Blk b11 73 [.int .i64 (g.prods.getD i pr0).left, .slice R36_ (g.prods.getD i pr0).right.length c36_, .int .i64 (g.prods.getD i pr0).level, .int .i64 (g.prods.getD i pr0).act.x.kind, .int .i64 (g.prods.getD i pr0).act.x.at_, .string (g.prods.getD i pr0).act.x.name, .slice B36_ (g.prods.getD i pr0).act.kids.length k36_], Blk b28 105 [.slice Az ((g.prods.take i).map Pr.act).length cz], Blk b4 50 [.int .i64 d.x.prod, .int .i64 d.x.tok, .slice B d.kids.length k], Blk b3 44 [.slice a.k g.kinds.length a.ck, .slice a.p g.precs.length a.cp, .slice a.r g.rules.length a.cr, .slice a.q g.prods.length a.cq, .int .i64 g.start]] _ := H31.pm (by repeat constructor)
  refine wl_nil (tn ⟨fun _ => HS32, ?_⟩)
  refine wj_t (k := 10) rfl (by kernel_rfl) ?_
  refine wV (v_nil rfl) ?_
  refine wl_nil (tn ⟨fun hlt => absurd hlt (by rw [show allH _ _ _ = true by kernel_rfl]; simp), ?_⟩)
  refine wj_t (k := 11) rfl (by kernel_rfl) ?_
  refine wV (v_fb (o2 := 0) fa105_0 rfl rfl) ?_
  refine wl_nil (tn ⟨fun hlt => absurd hlt (by rw [show allH _ _ _ = true by kernel_rfl]; simp), ?_⟩)
  refine wj_t (k := 12) rfl (by kernel_rfl) ?_
  refine wl_store (vs := [_]) H31 (by repeat constructor) sz103 rfl rfl rfl rfl rfl (by (repeat constructor)) ?_
  intro w35 H36 hw35
  refine wl_nil (tn ⟨fun hlt => absurd hlt (by rw [show allH _ _ _ = true by kernel_rfl]; simp), ?_⟩)
  refine wj_done (by kernel_rfl) ?_
  refine wc_region ?_
  refine wV (v_addi rfl rfl (by omega)) ?_
  refine wM ?_
  refine wl_nil ?_
  exact ⟨(i + 1, A59, c59), (sc rfl (sc rfl (sc rfl (sc rfl (sc rfl (sc rfl (sc rfl (sc rfl (sc rfl (sn _)))))))))), ⟨by dsimp only; omega, H36.pm (by repeat constructor)⟩, by dsimp only; omega⟩
end Go.Proofs.Ytgdemplcpcacaaa.PValue
