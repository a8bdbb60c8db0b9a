/- Nodes read from texts: the program's. -/
import Derived.Test.YtgdemplcpcacaaaProg
import Derived.Test.YtgdemplcpcacaaaK10
import Derived.Test.YtgdemplcpcacaaaK11
import Derived.Test.YtgdemplcpcacaaaK04
import Derived.Test.YtgdemplcpcacaaaK03
set_option linter.unusedVariables false
set_option linter.unusedSimpArgs false
/-! Nodes read from texts: the program's. -/
namespace Go.Proofs.Ytgdemplcpcacaaa.NodeR
open Go Go.RowKit Go.Proofs.YtgdemplcpcacaaaFx Go.Proofs.Ytgdemplcpcacaaa.QuotedW Go.Proofs.Ytgdemplcpcacaaa.QuoteW Go.Proofs.Ytgdemplcpcacaaa.EscW Go.Proofs.Ytgdemplcpcacaaa.NameW
theorem agg24 : Agg Try.prog 24 4 := agg_of Try.underlying24 (by kernel_rfl)
theorem agg34 : Agg Try.prog 34 2 := agg_of Try.underlying34 (by kernel_rfl)
theorem ba24 : BuildAt Try.prog 24 [.int .i64 0, .string ⟨#[]⟩, .int .i64 0, .slice none 0 0] [(0, 1), (1, 1), (2, 1), (3, 1)] := build_at Try.underlying24 (by kernel_rfl) (by kernel_rfl)
theorem ba34 : BuildAt Try.prog 34 [.int .i64 0, .int .i64 0] [(0, 1), (1, 1)] := build_at Try.underlying34 (by kernel_rfl) (by kernel_rfl)
theorem en33 : Enters Try.prog 33 := enters Try.func33 (by kernel_rfl) rfl
theorem en55 : Enters Try.prog 55 := enters Try.func55 (by kernel_rfl) rfl
theorem en58 : Enters Try.prog 58 := enters Try.func58 (by kernel_rfl) rfl
theorem en59 : Enters Try.prog 59 := enters Try.func59 (by kernel_rfl) rfl
theorem eqm34 : EqlMv Try.prog 34 := eql_mv2 (e := 29) (e2 := 3) Try.underlying34 (by kernel_rfl) (by kernel_rfl) Try.underlying29 Try.underlying3 rfl rfl
theorem fa24_3 : FieldAt Try.prog 24 3 3 := field_at (sz := 0) Try.underlying24 rfl (by kernel_rfl) rfl
theorem fa96_0 : FieldAt Try.prog 96 0 0 := field_at (sz := 0) Try.underlying96 rfl (by kernel_rfl) rfl
theorem fa96_1 : FieldAt Try.prog 96 1 1 := field_at (sz := 0) Try.underlying96 rfl (by kernel_rfl) rfl
theorem fa96_2 : FieldAt Try.prog 96 2 2 := field_at (sz := 0) Try.underlying96 rfl (by kernel_rfl) rfl
theorem info24 : (Try.prog.info? 24).map (fun i => (i.zero, i.size, i.bytes)) = some (some (.agg #[.int .i64 0, .string ⟨#[]⟩, .int .i64 0, .slice none 0 0]), 4, 56) := by kernel_rfl
theorem mixed : Try.prog.follows .mixedOrders = true := by kernel_rfl
theorem one22 : One Try.prog 22 := one_of Try.underlying22 rfl (by kernel_rfl)
theorem one3 : One Try.prog 3 := one_of Try.underlying3 rfl (by kernel_rfl)
theorem one4 : One Try.prog 4 := one_of Try.underlying4 rfl (by kernel_rfl)
theorem one9 : One Try.prog 9 := one_of Try.underlying9 rfl (by kernel_rfl)
theorem sz22 : ∀ W, (sizeOf 22).run Try.prog W = .ok 1 W := size_of (by kernel_rfl)
theorem sz24 : ∀ W, (sizeOf 24).run Try.prog W = .ok 4 W := size_of (by kernel_rfl)
theorem sz3 : ∀ W, (sizeOf 3).run Try.prog W = .ok 1 W := size_of (by kernel_rfl)
theorem sz34 : ∀ W, (sizeOf 34).run Try.prog W = .ok 2 W := size_of (by kernel_rfl)
theorem sz4 : ∀ W, (sizeOf 4).run Try.prog W = .ok 1 W := size_of (by kernel_rfl)
theorem zv24 : ∀ W, (zeroValue 24).run Try.prog W = .ok (.agg #[.int .i64 0, .string ⟨#[]⟩, .int .i64 0, .slice none 0 0]) W := zero_of (by kernel_rfl)
theorem zv34 : ∀ W, (zeroValue 34).run Try.prog W = .ok (.agg #[.int .i64 0, .int .i64 0]) W := zero_of (by kernel_rfl)

theorem neqz (f1 f2 : Int) : (!decide ((⟨f1, f2⟩ : Mv) = ⟨0, 0⟩)) = decide (¬ (f1 = 0 ∧ f2 = 0)) := by
  by_cases h : f1 = 0 ∧ f2 = 0
  · obtain ⟨rfl, rfl⟩ := h
    rfl
  · have h2 : ¬ (⟨f1, f2⟩ : Mv) = ⟨0, 0⟩ := fun e => h (by injection e with e1 e2; exact ⟨e1, e2⟩)
    rw [decide_eq_false h2, decide_eq_true h]
    rfl
theorem qd_no {s : ByteArray} {a z : Nat} {v : ByteArray} {f1 f2 : Int} (h : (f1 = 0 ∧ f2 = 0 ∧ v.size ≤ 4096 ∧ a < z ∧ z ≤ s.size ∧ Qd s a v z) ∨ (f1 = 12 ∧ v = ⟨#[]⟩ ∧ z = 0 ∧ Qn s a)) (hb : ¬ (f1 = 0 ∧ f2 = 0) ∨ ¬ qv v = s.extract a z) : Qn s a := by
  rcases h with ⟨h1, h2, h3, h4, h5, h6⟩ | ⟨_, _, _, h⟩
  · rcases hb with hb | hb
    · exact absurd ⟨h1, h2⟩ hb
    · intro v0 hv ha
      obtain ⟨e1, e2⟩ := h6 v0 hv ha
      subst e1
      refine hb (ba_eq ?_)
      rw [e2, ← tl_len, ha.ext]
  · exact h
def sepS (f : Bool) : ByteArray := if f then ⟨#[40]⟩ else ⟨#[44, 32]⟩
theorem sepS_size (f : Bool) : (sepS f).size = (sepL f).length := by cases f <;> rfl
theorem sepL_len (f : Bool) : 1 ≤ (sepL f).length ∧ (sepL f).length ≤ 2 := by cases f <;> decide
theorem sep_by (f : Bool) (i : Nat) : byA (sepS f) i = ((sepL f).getD i 0).toNat := by
  cases f
  · rcases i with _ | _ | i <;> rfl
  · rcases i with _ | i <;> rfl
theorem at_take {s : ByteArray} {z i : Nat} {l : List UInt8} (h : AtL s z (l.take i)) (hi : i < l.length) (h1 : z + i < s.size) (h2 : byA s (z + i) = (l.getD i 0).toNat) : AtL s z (l.take (i + 1)) := by
  have e : l.take (i + 1) = l.take i ++ [l.getD i 0] := by rw [List.take_add_one, List.getD_eq_getElem?_getD, List.getElem?_eq_getElem hi]; rfl
  have e2 : (l.take i).length = i := by rw [List.length_take]; omega
  rw [e]
  exact atL_app.2 ⟨h, by rw [e2]; exact atL_one h1 h2⟩
/-- What is left to read within a node. -/
def Cl (s : ByteArray) (a : Nat) (nm : ByteArray) (f : Bool) (ks : List Nd) (z : Nat) (bd : Bool) : Prop :=
  (bd = false → ∀ ks' z' b', Rg s (some f) z ks' z' b' → Rg s none a [.mk ⟨3, nm, 0⟩ (ks ++ ks')] z' b') ∧ (bd = true → Rg s none a [.mk ⟨3, nm, 0⟩ ks] z true)
section
variable {s nm : ByteArray} {a z z2 : Nat} {f : Bool} {ks : List Nd} {k : Nd}
theorem Cl.nosep (h : Cl s a nm f ks z false) {c : Nat} (h1 : z ≤ c) (h2 : c ≤ s.size) (h3 : ¬ AtL s z (sepL f)) : Rg s none a [.mk ⟨3, nm, 0⟩ ks] c true := by
  have := h.1 rfl _ _ _ (.nosep h1 h2 h3)
  rwa [List.append_nil] at this
theorem Cl.bad (h : Cl s a nm f ks z false) (h1 : AtL s z (sepL f)) (h2 : Rg s none (z + (sepL f).length) [k] z2 true) : Cl s a nm false (ks ++ [k]) z2 true := ⟨fun h => (by cases h), fun _ => h.1 rfl _ _ _ (.kbad h1 h2)⟩
theorem Cl.last (h : Cl s a nm f ks z false) (h1 : AtL s z (sepL f)) (h2 : Rg s none (z + (sepL f).length) [k] z2 false) (h3 : z2 < s.size) (h4 : byA s z2 = 41) : Rg s none a [.mk ⟨3, nm, 0⟩ (ks ++ [k])] (z2 + 1) false := h.1 rfl _ _ _ (.last h1 h2 h3 h4)
theorem Cl.more (h : Cl s a nm f ks z false) (h1 : AtL s z (sepL f)) (h2 : Rg s none (z + (sepL f).length) [k] z2 false) (h3 : ¬ (z2 < s.size ∧ byA s z2 = 41)) : Cl s a nm false (ks ++ [k]) z2 false := ⟨fun _ ks' z' b' hr => by
  have := h.1 rfl _ _ _ (.more h1 h2 h3 hr)
  rwa [List.append_assoc], fun h => (by cases h)⟩
end
def NodeOk (s : ByteArray) (a : Nat) : Prop := ∀ (w0 w : World) (L : List Ch) (br : Nat) (HH : Holds w0 (Blk br 96 [.string s, .int .i64 a, .bool false] :: L) w), Calls Try.prog 33 #[.pointer (some ⟨br, 0, none⟩)] w fun e w' => ∃ v, e = .returned v ∧ ∃ (t : Nd) (z : Nat) (bad : Bool) (A : Option Addr) (c : Nat), v = .agg #[.int .i64 t.x.kind, .string t.x.name, .int .i64 t.x.tok, .slice A t.kids.length c] ∧ Rg s none a [t] z bad ∧ Holds w0 (ORow fNd 24 (.slice A t.kids.length c) t.kids :: Blk br 96 [.string s, .int .i64 z, .bool bad] :: L) w'

set_option maxHeartbeats 12800000 in
set_option maxRecDepth 100000 in
theorem node_step {s : ByteArray} {a : Nat} {w0 w : World} {L : List Ch} {br : Nat} (hs : s.size ≤ 274877906944) (ha : a ≤ s.size) (HH : Holds w0 (Blk br 96 [.string s, .int .i64 a, .bool false] :: L) w) (ih : ∀ a', a < a' → a' ≤ s.size → NodeOk s a') : Calls Try.prog 33 #[.pointer (some ⟨br, 0, none⟩)] w fun e w' => ∃ v, e = .returned v ∧ ∃ (t : Nd) (z : Nat) (bad : Bool) (A : Option Addr) (c : Nat), v = .agg #[.int .i64 t.x.kind, .string t.x.name, .int .i64 t.x.tok, .slice A t.kids.length c] ∧ Rg s none a [t] z bad ∧ Holds w0 (ORow fNd 24 (.slice A t.kids.length c) t.kids :: Blk br 96 [.string s, .int .i64 z, .bool bad] :: L) w' := by
  refine calls_of Try.func33 rfl Try.ntmps33 rfl ?_
  have H := HH
  refine wcR ?_
  refine wl_alloc (cs := [.int .i64 0, .string ⟨#[]⟩, .int .i64 0, .slice none 0 0]) H rfl zv24 rfl ?_
  intro b2 w1 hb2 H2
  refine wl_nil ?_
  refine wc_seq ?_
  refine wc_seq ?_
  refine wc_still mixed (by kernel_rfl) ?_
  have Hd := H2.drew
  refine ws_v rfl rfl rfl (v_move rfl) ?_
  refine ws_v rfl rfl rfl (v_nil rfl) ?_
  refine ws_v rfl rfl rfl (v_fb (o2 := 1) fa96_1 rfl rfl) ?_
  refine ws_v rfl rfl rfl (v_load one3 rfl (Hd.at (by repeat constructor) rfl)) ?_
  refine ws_v rfl rfl rfl (v_move rfl) ?_
  refine ws_v rfl rfl rfl (v_nil rfl) ?_
  refine ws_v rfl rfl rfl (v_fb (o2 := 0) fa96_0 rfl rfl) ?_
  refine ws_v rfl rfl rfl (v_load one9 rfl (Hd.at (by repeat constructor) rfl)) ?_
  refine ws_v rfl rfl rfl (v_lens Try.underlying9 rfl) ?_
  refine ws_v rfl rfl rfl (v_geq rfl rfl) ?_
  refine ws_nil ?_
  refine wc_cond rfl (fun c0 => ?_) (fun c0 => ?_)
  ·have c0p := oT c0
   refine wcR ?_
   refine wM ?_
   refine wV (v_nil rfl) ?_
   refine wV (v_fb (o2 := 2) fa96_2 rfl rfl) ?_
   refine wl_store (vs := [_]) Hd (by repeat constructor) sz4 rfl rfl rfl rfl rfl (by (repeat constructor)) ?_
   intro w3 H4 hw3
   refine wl_nil ?_
   refine wcR ?_
   refine wV (v_bld ba24 rfl (by repeat constructor)) ?_
   refine wl_store (vs := [_, _, _, _]) H4 (by repeat constructor) sz24 rfl rfl rfl rfl rfl (by (repeat constructor)) ?_
   intro w5 H6 hw5
   refine wl_nil ?_
   refine wc_ret ?_
   first
     | (have q_ := c10p
        exact ⟨_, resc rfl rfl (run_loadVarN agg24 rfl (H6.ats (by repeat constructor))), .mk ⟨3, (s.extract a z), 0⟩ (ks ++ [tk_]), z2 + 1, false, A239, c239, rfl, hcl.last hat hRk (by omega) (by omega), H6.pm (by repeat (first | exact pm_refl _ | exact Pm.nil _ | constructor | refine pm_skip ?_))⟩)
     | (have q_ := c8p
        exact ⟨_, resc rfl rfl (run_loadVarN agg24 rfl (H6.ats (by repeat constructor))), .mk ⟨3, (s.extract a z), 0⟩ ks, z1 + i, true, A1, c1_, rfl, hcl.nosep (by omega) (by omega) (fun h_ => by have h1_ := (h_.bya (k := i) (by omega)); omega), H6.pm (by repeat (first | exact pm_refl _ | exact Pm.nil _ | constructor | refine pm_skip ?_))⟩)
     | (have q_ := hcl
        exact ⟨_, resc rfl rfl (run_loadVarN agg24 rfl (H6.ats (by repeat constructor))), .mk ⟨3, (s.extract a z), 0⟩ ks, z1, true, A1, c1_, rfl, hcl.2 rfl, H6.pm (by repeat (first | exact pm_refl _ | exact Pm.nil _ | constructor | refine pm_skip ?_))⟩)
     | (have q_ := hW
        exact ⟨_, resc rfl rfl (run_loadVarN agg24 rfl (H6.ats (by repeat constructor))), .mk ⟨3, (s.extract a z), 0⟩ [], z, false, none, 0, rfl, .leaf hW (by omega), (H6.oNil fNd 24).pm (by repeat (first | exact pm_refl _ | exact Pm.nil _ | constructor | refine pm_skip ?_))⟩)
     | (have q_ := c5p
        obtain rfl : z = a := by omega
        exact ⟨_, resc rfl rfl (run_loadVarN agg24 rfl (H6.ats (by repeat constructor))), nd0, z, true, none, 0, rfl, .nwd (by omega) (by omega) (by omega) (hmx (by omega) (by omega)), (H6.oNil fNd 24).pm (by repeat (first | exact pm_refl _ | exact Pm.nil _ | constructor | refine pm_skip ?_))⟩)
     | (have q_ := hQd
        exact ⟨_, resc rfl rfl (run_loadVarN agg24 rfl (H6.ats (by repeat constructor))), nd0, a, true, none, 0, rfl, .ntx (by omega) (by omega) (qd_no hQd (by first | exact .inl (by omega) | exact .inr c3p)), (H6.oNil fNd 24).pm (by repeat (first | exact pm_refl _ | exact Pm.nil _ | constructor | refine pm_skip ?_))⟩)
     | (have q_ := hQd
        rcases hQd with ⟨h1_, h2_, h3_, h4_, h5_, h6_⟩ | h_
        · exact ⟨_, resc rfl rfl (run_loadVarN agg24 rfl (H6.ats (by repeat constructor))), .mk ⟨2, vq, 0⟩ [], zq, false, none, 0, rfl, .txt (by omega) (by omega) h3_ h4_ h5_ (by first | exact c3p.symm | exact (of_not_ne c3p).symm) h6_, (H6.oNil fNd 24).pm (by repeat (first | exact pm_refl _ | exact Pm.nil _ | constructor | refine pm_skip ?_))⟩
        · omega)
     | (have q_ := c1p
        exact ⟨_, resc rfl rfl (run_loadVarN agg24 rfl (H6.ats (by repeat constructor))), nd0, (a + 1), false, none, 0, rfl, .dash (by omega) (by omega), (H6.oNil fNd 24).pm (by repeat (first | exact pm_refl _ | exact Pm.nil _ | constructor | refine pm_skip ?_))⟩)
     | exact ⟨_, resc rfl rfl (run_loadVarN agg24 rfl (H6.ats (by repeat constructor))), nd0, a, true, none, 0, rfl, .off (by omega), (H6.oNil fNd 24).pm (by repeat (first | exact pm_refl _ | exact Pm.nil _ | constructor | refine pm_skip ?_))⟩
  have c0p := oF c0
  refine wc_skip ?_
  refine wc_seq ?_
  refine wc_seq ?_
  refine wc_still mixed (by kernel_rfl) ?_
  have Hd := Hd.drew
  refine ws_v rfl rfl rfl (v_move rfl) ?_
  refine ws_v rfl rfl rfl (v_nil rfl) ?_
  refine ws_v rfl rfl rfl (v_fb (o2 := 0) fa96_0 rfl rfl) ?_
  refine ws_v rfl rfl rfl (v_load one9 rfl (Hd.at (by repeat constructor) rfl)) ?_
  refine ws_v rfl rfl rfl (v_move rfl) ?_
  refine ws_v rfl rfl rfl (v_nil rfl) ?_
  refine ws_v rfl rfl rfl (v_fb (o2 := 1) fa96_1 rfl rfl) ?_
  refine ws_v rfl rfl rfl (v_load one3 rfl (Hd.at (by repeat constructor) rfl)) ?_
  refine ws_v rfl rfl rfl (v_idxA (i := a) (s := s) Try.underlying9 rfl rfl (by omega)) ?_
  refine ws_v rfl rfl rfl (v_assign rfl) ?_
  refine ws_nil ?_
  refine wc_block ?_
  refine wcR ?_
  refine wM ?_
  refine wV (v_eql rfl rfl) ?_
  refine wA ?_
  refine wl_nil ?_
  refine wc_cond rfl (fun c1 => ?_) (fun c1 => ?_)
  ·have c1p := oT c1
   refine wcR ?_
   refine wM ?_
   refine wV (v_nil rfl) ?_
   refine wV (v_fb (o2 := 1) fa96_1 rfl rfl) ?_
   refine wV (v_load one3 rfl (Hd.at (by repeat constructor) rfl)) ?_
   refine wV (v_addi rfl rfl (by omega)) ?_
   refine wV (v_nil rfl) ?_
   refine wV (v_fb (o2 := 1) fa96_1 rfl rfl) ?_
   refine wl_store (vs := [_]) Hd (by repeat constructor) sz3 rfl rfl rfl rfl rfl (by (repeat constructor)) ?_
   intro w8 H9 hw8
   refine wl_nil ?_
   refine wcR ?_
   refine wV (v_bld ba24 rfl (by repeat constructor)) ?_
   refine wl_store (vs := [_, _, _, _]) H9 (by repeat constructor) sz24 rfl rfl rfl rfl rfl (by (repeat constructor)) ?_
   intro w10 H11 hw10
   refine wl_nil ?_
   refine wc_ret ?_
   first
     | (have q_ := c10p
        exact ⟨_, resc rfl rfl (run_loadVarN agg24 rfl (H11.ats (by repeat constructor))), .mk ⟨3, (s.extract a z), 0⟩ (ks ++ [tk_]), z2 + 1, false, A239, c239, rfl, hcl.last hat hRk (by omega) (by omega), H11.pm (by repeat (first | exact pm_refl _ | exact Pm.nil _ | constructor | refine pm_skip ?_))⟩)
     | (have q_ := c8p
        exact ⟨_, resc rfl rfl (run_loadVarN agg24 rfl (H11.ats (by repeat constructor))), .mk ⟨3, (s.extract a z), 0⟩ ks, z1 + i, true, A1, c1_, rfl, hcl.nosep (by omega) (by omega) (fun h_ => by have h1_ := (h_.bya (k := i) (by omega)); omega), H11.pm (by repeat (first | exact pm_refl _ | exact Pm.nil _ | constructor | refine pm_skip ?_))⟩)
     | (have q_ := hcl
        exact ⟨_, resc rfl rfl (run_loadVarN agg24 rfl (H11.ats (by repeat constructor))), .mk ⟨3, (s.extract a z), 0⟩ ks, z1, true, A1, c1_, rfl, hcl.2 rfl, H11.pm (by repeat (first | exact pm_refl _ | exact Pm.nil _ | constructor | refine pm_skip ?_))⟩)
     | (have q_ := hW
        exact ⟨_, resc rfl rfl (run_loadVarN agg24 rfl (H11.ats (by repeat constructor))), .mk ⟨3, (s.extract a z), 0⟩ [], z, false, none, 0, rfl, .leaf hW (by omega), (H11.oNil fNd 24).pm (by repeat (first | exact pm_refl _ | exact Pm.nil _ | constructor | refine pm_skip ?_))⟩)
     | (have q_ := c5p
        obtain rfl : z = a := by omega
        exact ⟨_, resc rfl rfl (run_loadVarN agg24 rfl (H11.ats (by repeat constructor))), nd0, z, true, none, 0, rfl, .nwd (by omega) (by omega) (by omega) (hmx (by omega) (by omega)), (H11.oNil fNd 24).pm (by repeat (first | exact pm_refl _ | exact Pm.nil _ | constructor | refine pm_skip ?_))⟩)
     | (have q_ := hQd
        exact ⟨_, resc rfl rfl (run_loadVarN agg24 rfl (H11.ats (by repeat constructor))), nd0, a, true, none, 0, rfl, .ntx (by omega) (by omega) (qd_no hQd (by first | exact .inl (by omega) | exact .inr c3p)), (H11.oNil fNd 24).pm (by repeat (first | exact pm_refl _ | exact Pm.nil _ | constructor | refine pm_skip ?_))⟩)
     | (have q_ := hQd
        rcases hQd with ⟨h1_, h2_, h3_, h4_, h5_, h6_⟩ | h_
        · exact ⟨_, resc rfl rfl (run_loadVarN agg24 rfl (H11.ats (by repeat constructor))), .mk ⟨2, vq, 0⟩ [], zq, false, none, 0, rfl, .txt (by omega) (by omega) h3_ h4_ h5_ (by first | exact c3p.symm | exact (of_not_ne c3p).symm) h6_, (H11.oNil fNd 24).pm (by repeat (first | exact pm_refl _ | exact Pm.nil _ | constructor | refine pm_skip ?_))⟩
        · omega)
     | (have q_ := c1p
        exact ⟨_, resc rfl rfl (run_loadVarN agg24 rfl (H11.ats (by repeat constructor))), nd0, (a + 1), false, none, 0, rfl, .dash (by omega) (by omega), (H11.oNil fNd 24).pm (by repeat (first | exact pm_refl _ | exact Pm.nil _ | constructor | refine pm_skip ?_))⟩)
     | exact ⟨_, resc rfl rfl (run_loadVarN agg24 rfl (H11.ats (by repeat constructor))), nd0, a, true, none, 0, rfl, .off (by omega), (H11.oNil fNd 24).pm (by repeat (first | exact pm_refl _ | exact Pm.nil _ | constructor | refine pm_skip ?_))⟩
  have c1p := oF c1
  refine wcR ?_
  refine wM ?_
  refine wV (v_eql rfl rfl) ?_
  refine wA ?_
  refine wl_nil ?_
  refine wc_cond rfl (fun c2 => ?_) (fun c2 => ?_)
  ·have c2p := oT c2
   refine wc_seq ?_
   refine wc_tree [0, 1, 2, 3, 4, 5, 6, 7, 9, 10, 11, 12, 14, 15] (fun W => Holds w0 (Blk br 96 [.string s, .int .i64 a, .bool false] :: L) W) mixed ?_
   have Hd := Hd.drew
   have HSd : Holds w0 (Blk br 96 [.string s, .int .i64 a, .bool false] :: L) _ := Hd.pm (by repeat (first | exact pm_refl _ | exact Pm.nil _ | constructor | refine pm_skip ?_))
   refine wjV (k := 0) rfl HSd (fun W HW => v_move rfl) ?_
   refine wjV (k := 1) rfl HSd (fun W HW => v_nil rfl) ?_
   refine wjV (k := 2) rfl HSd (fun W HW => v_fb (o2 := 0) fa96_0 rfl rfl) ?_
   refine wjV (k := 3) rfl HSd (fun W HW => v_load one9 rfl (HW.at (by repeat constructor) rfl)) ?_
   refine wjV (k := 4) rfl HSd (fun W HW => v_move rfl) ?_
   refine wjV (k := 5) rfl HSd (fun W HW => v_nil rfl) ?_
   refine wjV (k := 6) rfl HSd (fun W HW => v_fb (o2 := 1) fa96_1 rfl rfl) ?_
   refine wjV (k := 7) rfl HSd (fun W HW => v_load one3 rfl (HW.at (by repeat constructor) rfl)) ?_
   refine wj_2 (k := 8) (k2 := 13) rfl rfl (by kernel_rfl) ?_ ?_
   ·refine wl_call en59 rfl rfl (quoted_calls hs (by omega) (by omega)) ?_
    rintro _ w12 ⟨vq, zq, f1, f2, rfl, hQd, Hc⟩
    have H13 := Hd.call0 Hc
    have hvq : vq.size ≤ 4096 := by (rcases hQd with h_ | h_; exact h_.2.2.1; rw [h_.2.1]; decide)
    have hz : (f1 = 0 ∧ f2 = 0 ∧ a < zq ∧ zq ≤ s.size) ∨ f1 = 12 := hQd.imp (fun h_ => ⟨h_.1, h_.2.1, h_.2.2.2.1, h_.2.2.2.2.1⟩) (fun h_ => h_.1)
    have hqe : qe vq = 0 := by unfold qe; rw [if_pos hvq]
    have HS14 : Holds w0 (Blk br 96 [.string s, .int .i64 a, .bool false] :: L) _ := H13.pm (by repeat (first | exact pm_refl _ | exact Pm.nil _ | constructor | refine pm_skip ?_))
    refine wl_nil (tn ⟨fun _ => HS14, ?_⟩)
    refine wjV (k := 9) rfl HS14 (fun W HW => v_move rfl) ?_
    refine wjV (k := 10) rfl HS14 (fun W HW => v_extract rfl rfl) ?_
    refine wjV (k := 11) rfl HS14 (fun W HW => v_extract rfl rfl) ?_
    refine wjV (k := 12) rfl HS14 (fun W HW => v_extract rfl rfl) ?_
    refine wj_t (k := 13) rfl (by kernel_rfl) ?_
    refine wl_alloc (cs := [.int .i64 0, .int .i64 0]) H13 rfl zv34 rfl ?_
    intro b6 w15 hb6 H16
    have HS17 : Holds w0 (Blk br 96 [.string s, .int .i64 a, .bool false] :: L) _ := H16.pm (by repeat (first | exact pm_refl _ | exact Pm.nil _ | constructor | refine pm_skip ?_))
    refine wl_nil (tn ⟨fun _ => HS17, ?_⟩)
    refine wjV (k := 14) rfl HS17 (fun W HW => v_assign rfl) ?_
    refine wjV (k := 15) rfl HS17 (fun W HW => v_assign rfl) ?_
    refine wj_t (k := 16) rfl (by kernel_rfl) ?_
    refine wl_store (vs := [_, _]) H16 (by repeat constructor) sz34 rfl rfl rfl rfl rfl (by (repeat constructor)) ?_
    intro w18 H19 hw18
    refine wl_nil (tn ⟨fun hlt => absurd hlt (by rw [show allH _ _ _ = true by kernel_rfl]; simp), ?_⟩)
    refine wj_done (by kernel_rfl) ?_
    refine wcR ?_
    refine wM ?_
    refine wl_call en58 rfl rfl (quote_calls (by omega)) ?_
    rintro _ w21 ⟨rfl, Hc⟩
    have H22 := H19.call0 Hc
    refine wM ?_
    refine wV (v_extract rfl rfl) ?_
    refine wV (v_extract rfl rfl) ?_
    refine wA ?_
    refine wA ?_
    refine wl_nil ?_
    refine wc_seq ?_
    refine wc_seq ?_
    refine wc_still mixed (by kernel_rfl) ?_
    have Hd := H22.drew
    refine ws_v rfl rfl rfl (v_loadN agg34 rfl rfl (Hd.ats (by repeat constructor))) ?_
    refine ws_v rfl rfl rfl (v_bld ba34 rfl (by repeat constructor)) ?_
    refine ws_v rfl rfl rfl (v_neqm (a := ⟨f1, f2⟩) (b := ⟨0, 0⟩) eqm34 rfl rfl) ?_
    rw [neqz]
    refine ws_v rfl rfl rfl (v_move rfl) ?_
    refine ws_guard rfl rfl rfl (fun g71 => ?_) (fun g71 => ?_)
    rotate_left
    ·have g71p := oT g71
     refine ws_off rfl rfl g71 rfl ?_
     refine ws_v rfl rfl rfl (v_pick_t rfl g71 rfl) ?_
     refine ws_v rfl rfl rfl (v_move rfl) ?_
     refine ws_off rfl rfl rfl rfl ?_
     refine ws_off rfl rfl rfl rfl ?_
     refine ws_off rfl rfl rfl rfl ?_
     refine ws_off rfl rfl rfl rfl ?_
     refine ws_off rfl rfl rfl rfl ?_
     refine ws_off rfl rfl rfl rfl ?_
     refine ws_off rfl rfl rfl rfl ?_
     refine ws_off rfl rfl rfl rfl ?_
     refine ws_off rfl rfl rfl rfl ?_
     refine ws_off rfl rfl rfl rfl ?_
     refine ws_off rfl rfl rfl rfl ?_
     refine ws_off rfl rfl rfl rfl ?_
     refine ws_v rfl rfl rfl (v_pick_t rfl rfl rfl) ?_
     refine ws_nil ?_
     refine wc_cond_t rfl ?_
     refine wcR ?_
     refine wM ?_
     refine wV (v_nil rfl) ?_
     refine wV (v_fb (o2 := 2) fa96_2 rfl rfl) ?_
     refine wl_store (vs := [_]) Hd (by repeat constructor) sz4 rfl rfl rfl rfl rfl (by (repeat constructor)) ?_
     intro w37 H38 hw37
     refine wl_nil ?_
     refine wcR ?_
     refine wV (v_bld ba24 rfl (by repeat constructor)) ?_
     refine wl_store (vs := [_, _, _, _]) H38 (by repeat constructor) sz24 rfl rfl rfl rfl rfl (by (repeat constructor)) ?_
     intro w39 H40 hw39
     refine wl_nil ?_
     refine wc_ret ?_
     first
       | (have q_ := c10p
          exact ⟨_, resc rfl rfl (run_loadVarN agg24 rfl (H40.ats (by repeat constructor))), .mk ⟨3, (s.extract a z), 0⟩ (ks ++ [tk_]), z2 + 1, false, A239, c239, rfl, hcl.last hat hRk (by omega) (by omega), H40.pm (by repeat (first | exact pm_refl _ | exact Pm.nil _ | constructor | refine pm_skip ?_))⟩)
       | (have q_ := c8p
          exact ⟨_, resc rfl rfl (run_loadVarN agg24 rfl (H40.ats (by repeat constructor))), .mk ⟨3, (s.extract a z), 0⟩ ks, z1 + i, true, A1, c1_, rfl, hcl.nosep (by omega) (by omega) (fun h_ => by have h1_ := (h_.bya (k := i) (by omega)); omega), H40.pm (by repeat (first | exact pm_refl _ | exact Pm.nil _ | constructor | refine pm_skip ?_))⟩)
       | (have q_ := hcl
          exact ⟨_, resc rfl rfl (run_loadVarN agg24 rfl (H40.ats (by repeat constructor))), .mk ⟨3, (s.extract a z), 0⟩ ks, z1, true, A1, c1_, rfl, hcl.2 rfl, H40.pm (by repeat (first | exact pm_refl _ | exact Pm.nil _ | constructor | refine pm_skip ?_))⟩)
       | (have q_ := hW
          exact ⟨_, resc rfl rfl (run_loadVarN agg24 rfl (H40.ats (by repeat constructor))), .mk ⟨3, (s.extract a z), 0⟩ [], z, false, none, 0, rfl, .leaf hW (by omega), (H40.oNil fNd 24).pm (by repeat (first | exact pm_refl _ | exact Pm.nil _ | constructor | refine pm_skip ?_))⟩)
       | (have q_ := c5p
          obtain rfl : z = a := by omega
          exact ⟨_, resc rfl rfl (run_loadVarN agg24 rfl (H40.ats (by repeat constructor))), nd0, z, true, none, 0, rfl, .nwd (by omega) (by omega) (by omega) (hmx (by omega) (by omega)), (H40.oNil fNd 24).pm (by repeat (first | exact pm_refl _ | exact Pm.nil _ | constructor | refine pm_skip ?_))⟩)
       | (have q_ := hQd
          exact ⟨_, resc rfl rfl (run_loadVarN agg24 rfl (H40.ats (by repeat constructor))), nd0, a, true, none, 0, rfl, .ntx (by omega) (by omega) (qd_no hQd (by first | exact .inl (by omega) | exact .inr c3p)), (H40.oNil fNd 24).pm (by repeat (first | exact pm_refl _ | exact Pm.nil _ | constructor | refine pm_skip ?_))⟩)
       | (have q_ := hQd
          rcases hQd with ⟨h1_, h2_, h3_, h4_, h5_, h6_⟩ | h_
          · exact ⟨_, resc rfl rfl (run_loadVarN agg24 rfl (H40.ats (by repeat constructor))), .mk ⟨2, vq, 0⟩ [], zq, false, none, 0, rfl, .txt (by omega) (by omega) h3_ h4_ h5_ (by first | exact c3p.symm | exact (of_not_ne c3p).symm) h6_, (H40.oNil fNd 24).pm (by repeat (first | exact pm_refl _ | exact Pm.nil _ | constructor | refine pm_skip ?_))⟩
          · omega)
       | (have q_ := c1p
          exact ⟨_, resc rfl rfl (run_loadVarN agg24 rfl (H40.ats (by repeat constructor))), nd0, (a + 1), false, none, 0, rfl, .dash (by omega) (by omega), (H40.oNil fNd 24).pm (by repeat (first | exact pm_refl _ | exact Pm.nil _ | constructor | refine pm_skip ?_))⟩)
       | exact ⟨_, resc rfl rfl (run_loadVarN agg24 rfl (H40.ats (by repeat constructor))), nd0, a, true, none, 0, rfl, .off (by omega), (H40.oNil fNd 24).pm (by repeat (first | exact pm_refl _ | exact Pm.nil _ | constructor | refine pm_skip ?_))⟩
    have g71p := oF g71
    refine ws_v rfl rfl rfl (v_move rfl) ?_
    refine ws_on' rfl rfl g71 ?_
    refine ws_v rfl rfl rfl (v_neq rfl rfl) ?_
    refine ws_v rfl rfl rfl (v_pick_f rfl g71 rfl) ?_
    refine ws_v rfl rfl rfl (v_move rfl) ?_
    refine ws_guard rfl rfl rfl (fun g75 => ?_) (fun g75 => ?_)
    rotate_left
    ·have g75p := of_nd_t g75
     refine ws_off rfl rfl g75 rfl ?_
     refine ws_off rfl rfl g75 rfl ?_
     refine ws_off rfl rfl g75 rfl ?_
     refine ws_off rfl rfl g75 rfl ?_
     refine ws_off rfl rfl g75 rfl ?_
     refine ws_off rfl rfl g75 rfl ?_
     refine ws_off rfl rfl g75 rfl ?_
     refine ws_off rfl rfl g75 rfl ?_
     refine ws_off rfl rfl g75 rfl ?_
     refine ws_off rfl rfl g75 rfl ?_
     refine ws_off rfl rfl g75 rfl ?_
     refine ws_v rfl rfl rfl (v_pick_t rfl g75 rfl) ?_
     refine ws_nil ?_
     refine wc_cond_t rfl ?_
     refine wcR ?_
     refine wM ?_
     refine wV (v_nil rfl) ?_
     refine wV (v_fb (o2 := 2) fa96_2 rfl rfl) ?_
     refine wl_store (vs := [_]) Hd (by repeat constructor) sz4 rfl rfl rfl rfl rfl (by (repeat constructor)) ?_
     intro w33 H34 hw33
     refine wl_nil ?_
     refine wcR ?_
     refine wV (v_bld ba24 rfl (by repeat constructor)) ?_
     refine wl_store (vs := [_, _, _, _]) H34 (by repeat constructor) sz24 rfl rfl rfl rfl rfl (by (repeat constructor)) ?_
     intro w35 H36 hw35
     refine wl_nil ?_
     refine wc_ret ?_
     first
       | (have q_ := c10p
          exact ⟨_, resc rfl rfl (run_loadVarN agg24 rfl (H36.ats (by repeat constructor))), .mk ⟨3, (s.extract a z), 0⟩ (ks ++ [tk_]), z2 + 1, false, A239, c239, rfl, hcl.last hat hRk (by omega) (by omega), H36.pm (by repeat (first | exact pm_refl _ | exact Pm.nil _ | constructor | refine pm_skip ?_))⟩)
       | (have q_ := c8p
          exact ⟨_, resc rfl rfl (run_loadVarN agg24 rfl (H36.ats (by repeat constructor))), .mk ⟨3, (s.extract a z), 0⟩ ks, z1 + i, true, A1, c1_, rfl, hcl.nosep (by omega) (by omega) (fun h_ => by have h1_ := (h_.bya (k := i) (by omega)); omega), H36.pm (by repeat (first | exact pm_refl _ | exact Pm.nil _ | constructor | refine pm_skip ?_))⟩)
       | (have q_ := hcl
          exact ⟨_, resc rfl rfl (run_loadVarN agg24 rfl (H36.ats (by repeat constructor))), .mk ⟨3, (s.extract a z), 0⟩ ks, z1, true, A1, c1_, rfl, hcl.2 rfl, H36.pm (by repeat (first | exact pm_refl _ | exact Pm.nil _ | constructor | refine pm_skip ?_))⟩)
       | (have q_ := hW
          exact ⟨_, resc rfl rfl (run_loadVarN agg24 rfl (H36.ats (by repeat constructor))), .mk ⟨3, (s.extract a z), 0⟩ [], z, false, none, 0, rfl, .leaf hW (by omega), (H36.oNil fNd 24).pm (by repeat (first | exact pm_refl _ | exact Pm.nil _ | constructor | refine pm_skip ?_))⟩)
       | (have q_ := c5p
          obtain rfl : z = a := by omega
          exact ⟨_, resc rfl rfl (run_loadVarN agg24 rfl (H36.ats (by repeat constructor))), nd0, z, true, none, 0, rfl, .nwd (by omega) (by omega) (by omega) (hmx (by omega) (by omega)), (H36.oNil fNd 24).pm (by repeat (first | exact pm_refl _ | exact Pm.nil _ | constructor | refine pm_skip ?_))⟩)
       | (have q_ := hQd
          exact ⟨_, resc rfl rfl (run_loadVarN agg24 rfl (H36.ats (by repeat constructor))), nd0, a, true, none, 0, rfl, .ntx (by omega) (by omega) (qd_no hQd (by first | exact .inl (by omega) | exact .inr c3p)), (H36.oNil fNd 24).pm (by repeat (first | exact pm_refl _ | exact Pm.nil _ | constructor | refine pm_skip ?_))⟩)
       | (have q_ := hQd
          rcases hQd with ⟨h1_, h2_, h3_, h4_, h5_, h6_⟩ | h_
          · exact ⟨_, resc rfl rfl (run_loadVarN agg24 rfl (H36.ats (by repeat constructor))), .mk ⟨2, vq, 0⟩ [], zq, false, none, 0, rfl, .txt (by omega) (by omega) h3_ h4_ h5_ (by first | exact c3p.symm | exact (of_not_ne c3p).symm) h6_, (H36.oNil fNd 24).pm (by repeat (first | exact pm_refl _ | exact Pm.nil _ | constructor | refine pm_skip ?_))⟩
          · omega)
       | (have q_ := c1p
          exact ⟨_, resc rfl rfl (run_loadVarN agg24 rfl (H36.ats (by repeat constructor))), nd0, (a + 1), false, none, 0, rfl, .dash (by omega) (by omega), (H36.oNil fNd 24).pm (by repeat (first | exact pm_refl _ | exact Pm.nil _ | constructor | refine pm_skip ?_))⟩)
       | exact ⟨_, resc rfl rfl (run_loadVarN agg24 rfl (H36.ats (by repeat constructor))), nd0, a, true, none, 0, rfl, .off (by omega), (H36.oNil fNd 24).pm (by repeat (first | exact pm_refl _ | exact Pm.nil _ | constructor | refine pm_skip ?_))⟩
    have g75p := of_nd_f g75
    refine ws_v rfl rfl rfl (v_move rfl) ?_
    refine ws_on' rfl rfl g75 ?_
    refine ws_v rfl rfl rfl (v_move rfl) ?_
    refine ws_on' rfl rfl g75 ?_
    refine ws_v rfl rfl rfl (v_nil rfl) ?_
    refine ws_on' rfl rfl g75 ?_
    refine ws_v rfl rfl rfl (v_fb (o2 := 0) fa96_0 rfl rfl) ?_
    refine ws_on' rfl rfl g75 ?_
    refine ws_v rfl rfl rfl (v_load one9 rfl (Hd.at (by repeat constructor) rfl)) ?_
    refine ws_on' rfl rfl g75 ?_
    refine ws_v rfl rfl rfl (v_move rfl) ?_
    refine ws_on' rfl rfl g75 ?_
    refine ws_v rfl rfl rfl (v_nil rfl) ?_
    refine ws_on' rfl rfl g75 ?_
    refine ws_v rfl rfl rfl (v_fb (o2 := 1) fa96_1 rfl rfl) ?_
    refine ws_on' rfl rfl g75 ?_
    refine ws_v rfl rfl rfl (v_load one3 rfl (Hd.at (by repeat constructor) rfl)) ?_
    refine ws_on' rfl rfl g75 ?_
    refine ws_v rfl rfl rfl (v_move rfl) ?_
    refine ws_on' rfl rfl g75 ?_
    refine ws_v rfl rfl rfl (v_cut Try.underlying9 rfl rfl rfl (by omega) (by omega) (by omega)) ?_
    rw [Int.toNat_natCast, Int.toNat_natCast]
    refine ws_on' rfl rfl g75 ?_
    refine ws_v rfl rfl rfl (v_neqs rfl rfl) ?_
    refine ws_v rfl rfl rfl (v_pick_f rfl g75 rfl) ?_
    refine ws_nil ?_
    refine wc_cond rfl (fun c3 => ?_) (fun c3 => ?_)
    ·have c3p := of_nd_t c3
     refine wcR ?_
     refine wM ?_
     refine wV (v_nil rfl) ?_
     refine wV (v_fb (o2 := 2) fa96_2 rfl rfl) ?_
     refine wl_store (vs := [_]) Hd (by repeat constructor) sz4 rfl rfl rfl rfl rfl (by (repeat constructor)) ?_
     intro w25 H26 hw25
     refine wl_nil ?_
     refine wcR ?_
     refine wV (v_bld ba24 rfl (by repeat constructor)) ?_
     refine wl_store (vs := [_, _, _, _]) H26 (by repeat constructor) sz24 rfl rfl rfl rfl rfl (by (repeat constructor)) ?_
     intro w27 H28 hw27
     refine wl_nil ?_
     refine wc_ret ?_
     first
       | (have q_ := c10p
          exact ⟨_, resc rfl rfl (run_loadVarN agg24 rfl (H28.ats (by repeat constructor))), .mk ⟨3, (s.extract a z), 0⟩ (ks ++ [tk_]), z2 + 1, false, A239, c239, rfl, hcl.last hat hRk (by omega) (by omega), H28.pm (by repeat (first | exact pm_refl _ | exact Pm.nil _ | constructor | refine pm_skip ?_))⟩)
       | (have q_ := c8p
          exact ⟨_, resc rfl rfl (run_loadVarN agg24 rfl (H28.ats (by repeat constructor))), .mk ⟨3, (s.extract a z), 0⟩ ks, z1 + i, true, A1, c1_, rfl, hcl.nosep (by omega) (by omega) (fun h_ => by have h1_ := (h_.bya (k := i) (by omega)); omega), H28.pm (by repeat (first | exact pm_refl _ | exact Pm.nil _ | constructor | refine pm_skip ?_))⟩)
       | (have q_ := hcl
          exact ⟨_, resc rfl rfl (run_loadVarN agg24 rfl (H28.ats (by repeat constructor))), .mk ⟨3, (s.extract a z), 0⟩ ks, z1, true, A1, c1_, rfl, hcl.2 rfl, H28.pm (by repeat (first | exact pm_refl _ | exact Pm.nil _ | constructor | refine pm_skip ?_))⟩)
       | (have q_ := hW
          exact ⟨_, resc rfl rfl (run_loadVarN agg24 rfl (H28.ats (by repeat constructor))), .mk ⟨3, (s.extract a z), 0⟩ [], z, false, none, 0, rfl, .leaf hW (by omega), (H28.oNil fNd 24).pm (by repeat (first | exact pm_refl _ | exact Pm.nil _ | constructor | refine pm_skip ?_))⟩)
       | (have q_ := c5p
          obtain rfl : z = a := by omega
          exact ⟨_, resc rfl rfl (run_loadVarN agg24 rfl (H28.ats (by repeat constructor))), nd0, z, true, none, 0, rfl, .nwd (by omega) (by omega) (by omega) (hmx (by omega) (by omega)), (H28.oNil fNd 24).pm (by repeat (first | exact pm_refl _ | exact Pm.nil _ | constructor | refine pm_skip ?_))⟩)
       | (have q_ := hQd
          exact ⟨_, resc rfl rfl (run_loadVarN agg24 rfl (H28.ats (by repeat constructor))), nd0, a, true, none, 0, rfl, .ntx (by omega) (by omega) (qd_no hQd (by first | exact .inl (by omega) | exact .inr c3p)), (H28.oNil fNd 24).pm (by repeat (first | exact pm_refl _ | exact Pm.nil _ | constructor | refine pm_skip ?_))⟩)
       | (have q_ := hQd
          rcases hQd with ⟨h1_, h2_, h3_, h4_, h5_, h6_⟩ | h_
          · exact ⟨_, resc rfl rfl (run_loadVarN agg24 rfl (H28.ats (by repeat constructor))), .mk ⟨2, vq, 0⟩ [], zq, false, none, 0, rfl, .txt (by omega) (by omega) h3_ h4_ h5_ (by first | exact c3p.symm | exact (of_not_ne c3p).symm) h6_, (H28.oNil fNd 24).pm (by repeat (first | exact pm_refl _ | exact Pm.nil _ | constructor | refine pm_skip ?_))⟩
          · omega)
       | (have q_ := c1p
          exact ⟨_, resc rfl rfl (run_loadVarN agg24 rfl (H28.ats (by repeat constructor))), nd0, (a + 1), false, none, 0, rfl, .dash (by omega) (by omega), (H28.oNil fNd 24).pm (by repeat (first | exact pm_refl _ | exact Pm.nil _ | constructor | refine pm_skip ?_))⟩)
       | exact ⟨_, resc rfl rfl (run_loadVarN agg24 rfl (H28.ats (by repeat constructor))), nd0, a, true, none, 0, rfl, .off (by omega), (H28.oNil fNd 24).pm (by repeat (first | exact pm_refl _ | exact Pm.nil _ | constructor | refine pm_skip ?_))⟩
    have c3p := of_nd_f c3
    refine wc_skip ?_
    refine wcR ?_
    refine wM ?_
    refine wM ?_
    refine wV (v_nil rfl) ?_
    refine wV (v_fb (o2 := 1) fa96_1 rfl rfl) ?_
    refine wl_store (vs := [_]) Hd (by repeat constructor) sz3 rfl rfl rfl rfl rfl (by (repeat constructor)) ?_
    intro w29 H30 hw29
    refine wl_nil ?_
    refine wcR ?_
    refine wM ?_
    refine wV (v_bld ba24 rfl (by repeat constructor)) ?_
    refine wl_store (vs := [_, _, _, _]) H30 (by repeat constructor) sz24 rfl rfl rfl rfl rfl (by (repeat constructor)) ?_
    intro w31 H32 hw31
    refine wl_nil ?_
    refine wc_ret ?_
    first
      | (have q_ := c10p
         exact ⟨_, resc rfl rfl (run_loadVarN agg24 rfl (H32.ats (by repeat constructor))), .mk ⟨3, (s.extract a z), 0⟩ (ks ++ [tk_]), z2 + 1, false, A239, c239, rfl, hcl.last hat hRk (by omega) (by omega), H32.pm (by repeat (first | exact pm_refl _ | exact Pm.nil _ | constructor | refine pm_skip ?_))⟩)
      | (have q_ := c8p
         exact ⟨_, resc rfl rfl (run_loadVarN agg24 rfl (H32.ats (by repeat constructor))), .mk ⟨3, (s.extract a z), 0⟩ ks, z1 + i, true, A1, c1_, rfl, hcl.nosep (by omega) (by omega) (fun h_ => by have h1_ := (h_.bya (k := i) (by omega)); omega), H32.pm (by repeat (first | exact pm_refl _ | exact Pm.nil _ | constructor | refine pm_skip ?_))⟩)
      | (have q_ := hcl
         exact ⟨_, resc rfl rfl (run_loadVarN agg24 rfl (H32.ats (by repeat constructor))), .mk ⟨3, (s.extract a z), 0⟩ ks, z1, true, A1, c1_, rfl, hcl.2 rfl, H32.pm (by repeat (first | exact pm_refl _ | exact Pm.nil _ | constructor | refine pm_skip ?_))⟩)
      | (have q_ := hW
         exact ⟨_, resc rfl rfl (run_loadVarN agg24 rfl (H32.ats (by repeat constructor))), .mk ⟨3, (s.extract a z), 0⟩ [], z, false, none, 0, rfl, .leaf hW (by omega), (H32.oNil fNd 24).pm (by repeat (first | exact pm_refl _ | exact Pm.nil _ | constructor | refine pm_skip ?_))⟩)
      | (have q_ := c5p
         obtain rfl : z = a := by omega
         exact ⟨_, resc rfl rfl (run_loadVarN agg24 rfl (H32.ats (by repeat constructor))), nd0, z, true, none, 0, rfl, .nwd (by omega) (by omega) (by omega) (hmx (by omega) (by omega)), (H32.oNil fNd 24).pm (by repeat (first | exact pm_refl _ | exact Pm.nil _ | constructor | refine pm_skip ?_))⟩)
      | (have q_ := hQd
         exact ⟨_, resc rfl rfl (run_loadVarN agg24 rfl (H32.ats (by repeat constructor))), nd0, a, true, none, 0, rfl, .ntx (by omega) (by omega) (qd_no hQd (by first | exact .inl (by omega) | exact .inr c3p)), (H32.oNil fNd 24).pm (by repeat (first | exact pm_refl _ | exact Pm.nil _ | constructor | refine pm_skip ?_))⟩)
      | (have q_ := hQd
         rcases hQd with ⟨h1_, h2_, h3_, h4_, h5_, h6_⟩ | h_
         · exact ⟨_, resc rfl rfl (run_loadVarN agg24 rfl (H32.ats (by repeat constructor))), .mk ⟨2, vq, 0⟩ [], zq, false, none, 0, rfl, .txt (by omega) (by omega) h3_ h4_ h5_ (by first | exact c3p.symm | exact (of_not_ne c3p).symm) h6_, (H32.oNil fNd 24).pm (by repeat (first | exact pm_refl _ | exact Pm.nil _ | constructor | refine pm_skip ?_))⟩
         · omega)
      | (have q_ := c1p
         exact ⟨_, resc rfl rfl (run_loadVarN agg24 rfl (H32.ats (by repeat constructor))), nd0, (a + 1), false, none, 0, rfl, .dash (by omega) (by omega), (H32.oNil fNd 24).pm (by repeat (first | exact pm_refl _ | exact Pm.nil _ | constructor | refine pm_skip ?_))⟩)
      | exact ⟨_, resc rfl rfl (run_loadVarN agg24 rfl (H32.ats (by repeat constructor))), nd0, a, true, none, 0, rfl, .off (by omega), (H32.oNil fNd 24).pm (by repeat (first | exact pm_refl _ | exact Pm.nil _ | constructor | refine pm_skip ?_))⟩
   ·refine wl_alloc (cs := [.int .i64 0, .int .i64 0]) Hd rfl zv34 rfl ?_
    intro b6 w41 hb6 H42
    have HS43 : Holds w0 (Blk br 96 [.string s, .int .i64 a, .bool false] :: L) _ := H42.pm (by repeat (first | exact pm_refl _ | exact Pm.nil _ | constructor | refine pm_skip ?_))
    refine wl_nil (tn ⟨fun _ => HS43, ?_⟩)
    refine wj_t (k := 8) rfl (by kernel_rfl) ?_
    refine wl_call en59 rfl rfl (quoted_calls hs (by omega) (by omega)) ?_
    rintro _ w44 ⟨vq, zq, f1, f2, rfl, hQd, Hc⟩
    have H45 := H42.call0 Hc
    have hvq : vq.size ≤ 4096 := by (rcases hQd with h_ | h_; exact h_.2.2.1; rw [h_.2.1]; decide)
    have hz : (f1 = 0 ∧ f2 = 0 ∧ a < zq ∧ zq ≤ s.size) ∨ f1 = 12 := hQd.imp (fun h_ => ⟨h_.1, h_.2.1, h_.2.2.2.1, h_.2.2.2.2.1⟩) (fun h_ => h_.1)
    have hqe : qe vq = 0 := by unfold qe; rw [if_pos hvq]
    have HS46 : Holds w0 (Blk br 96 [.string s, .int .i64 a, .bool false] :: L) _ := H45.pm (by repeat (first | exact pm_refl _ | exact Pm.nil _ | constructor | refine pm_skip ?_))
    refine wl_nil (tn ⟨fun _ => HS46, ?_⟩)
    refine wjV (k := 9) rfl HS46 (fun W HW => v_move rfl) ?_
    refine wjV (k := 10) rfl HS46 (fun W HW => v_extract rfl rfl) ?_
    refine wjV (k := 11) rfl HS46 (fun W HW => v_extract rfl rfl) ?_
    refine wjV (k := 12) rfl HS46 (fun W HW => v_extract rfl rfl) ?_
    refine wjV (k := 14) rfl HS46 (fun W HW => v_assign rfl) ?_
    refine wjV (k := 15) rfl HS46 (fun W HW => v_assign rfl) ?_
    refine wj_t (k := 16) rfl (by kernel_rfl) ?_
    refine wl_store (vs := [_, _]) H45 (by repeat constructor) sz34 rfl rfl rfl rfl rfl (by (repeat constructor)) ?_
    intro w47 H48 hw47
    refine wl_nil (tn ⟨fun hlt => absurd hlt (by rw [show allH _ _ _ = true by kernel_rfl]; simp), ?_⟩)
    refine wj_done (by kernel_rfl) ?_
    refine wcR ?_
    refine wM ?_
    refine wl_call en58 rfl rfl (quote_calls (by omega)) ?_
    rintro _ w50 ⟨rfl, Hc⟩
    have H51 := H48.call0 Hc
    refine wM ?_
    refine wV (v_extract rfl rfl) ?_
    refine wV (v_extract rfl rfl) ?_
    refine wA ?_
    refine wA ?_
    refine wl_nil ?_
    refine wc_seq ?_
    refine wc_seq ?_
    refine wc_still mixed (by kernel_rfl) ?_
    have Hd := H51.drew
    refine ws_v rfl rfl rfl (v_loadN agg34 rfl rfl (Hd.ats (by repeat constructor))) ?_
    refine ws_v rfl rfl rfl (v_bld ba34 rfl (by repeat constructor)) ?_
    refine ws_v rfl rfl rfl (v_neqm (a := ⟨f1, f2⟩) (b := ⟨0, 0⟩) eqm34 rfl rfl) ?_
    rw [neqz]
    refine ws_v rfl rfl rfl (v_move rfl) ?_
    refine ws_guard rfl rfl rfl (fun g71 => ?_) (fun g71 => ?_)
    rotate_left
    ·have g71p := oT g71
     refine ws_off rfl rfl g71 rfl ?_
     refine ws_v rfl rfl rfl (v_pick_t rfl g71 rfl) ?_
     refine ws_v rfl rfl rfl (v_move rfl) ?_
     refine ws_off rfl rfl rfl rfl ?_
     refine ws_off rfl rfl rfl rfl ?_
     refine ws_off rfl rfl rfl rfl ?_
     refine ws_off rfl rfl rfl rfl ?_
     refine ws_off rfl rfl rfl rfl ?_
     refine ws_off rfl rfl rfl rfl ?_
     refine ws_off rfl rfl rfl rfl ?_
     refine ws_off rfl rfl rfl rfl ?_
     refine ws_off rfl rfl rfl rfl ?_
     refine ws_off rfl rfl rfl rfl ?_
     refine ws_off rfl rfl rfl rfl ?_
     refine ws_off rfl rfl rfl rfl ?_
     refine ws_v rfl rfl rfl (v_pick_t rfl rfl rfl) ?_
     refine ws_nil ?_
     refine wc_cond_t rfl ?_
     refine wcR ?_
     refine wM ?_
     refine wV (v_nil rfl) ?_
     refine wV (v_fb (o2 := 2) fa96_2 rfl rfl) ?_
     refine wl_store (vs := [_]) Hd (by repeat constructor) sz4 rfl rfl rfl rfl rfl (by (repeat constructor)) ?_
     intro w66 H67 hw66
     refine wl_nil ?_
     refine wcR ?_
     refine wV (v_bld ba24 rfl (by repeat constructor)) ?_
     refine wl_store (vs := [_, _, _, _]) H67 (by repeat constructor) sz24 rfl rfl rfl rfl rfl (by (repeat constructor)) ?_
     intro w68 H69 hw68
     refine wl_nil ?_
     refine wc_ret ?_
     first
       | (have q_ := c10p
          exact ⟨_, resc rfl rfl (run_loadVarN agg24 rfl (H69.ats (by repeat constructor))), .mk ⟨3, (s.extract a z), 0⟩ (ks ++ [tk_]), z2 + 1, false, A239, c239, rfl, hcl.last hat hRk (by omega) (by omega), H69.pm (by repeat (first | exact pm_refl _ | exact Pm.nil _ | constructor | refine pm_skip ?_))⟩)
       | (have q_ := c8p
          exact ⟨_, resc rfl rfl (run_loadVarN agg24 rfl (H69.ats (by repeat constructor))), .mk ⟨3, (s.extract a z), 0⟩ ks, z1 + i, true, A1, c1_, rfl, hcl.nosep (by omega) (by omega) (fun h_ => by have h1_ := (h_.bya (k := i) (by omega)); omega), H69.pm (by repeat (first | exact pm_refl _ | exact Pm.nil _ | constructor | refine pm_skip ?_))⟩)
       | (have q_ := hcl
          exact ⟨_, resc rfl rfl (run_loadVarN agg24 rfl (H69.ats (by repeat constructor))), .mk ⟨3, (s.extract a z), 0⟩ ks, z1, true, A1, c1_, rfl, hcl.2 rfl, H69.pm (by repeat (first | exact pm_refl _ | exact Pm.nil _ | constructor | refine pm_skip ?_))⟩)
       | (have q_ := hW
          exact ⟨_, resc rfl rfl (run_loadVarN agg24 rfl (H69.ats (by repeat constructor))), .mk ⟨3, (s.extract a z), 0⟩ [], z, false, none, 0, rfl, .leaf hW (by omega), (H69.oNil fNd 24).pm (by repeat (first | exact pm_refl _ | exact Pm.nil _ | constructor | refine pm_skip ?_))⟩)
       | (have q_ := c5p
          obtain rfl : z = a := by omega
          exact ⟨_, resc rfl rfl (run_loadVarN agg24 rfl (H69.ats (by repeat constructor))), nd0, z, true, none, 0, rfl, .nwd (by omega) (by omega) (by omega) (hmx (by omega) (by omega)), (H69.oNil fNd 24).pm (by repeat (first | exact pm_refl _ | exact Pm.nil _ | constructor | refine pm_skip ?_))⟩)
       | (have q_ := hQd
          exact ⟨_, resc rfl rfl (run_loadVarN agg24 rfl (H69.ats (by repeat constructor))), nd0, a, true, none, 0, rfl, .ntx (by omega) (by omega) (qd_no hQd (by first | exact .inl (by omega) | exact .inr c3p)), (H69.oNil fNd 24).pm (by repeat (first | exact pm_refl _ | exact Pm.nil _ | constructor | refine pm_skip ?_))⟩)
       | (have q_ := hQd
          rcases hQd with ⟨h1_, h2_, h3_, h4_, h5_, h6_⟩ | h_
          · exact ⟨_, resc rfl rfl (run_loadVarN agg24 rfl (H69.ats (by repeat constructor))), .mk ⟨2, vq, 0⟩ [], zq, false, none, 0, rfl, .txt (by omega) (by omega) h3_ h4_ h5_ (by first | exact c3p.symm | exact (of_not_ne c3p).symm) h6_, (H69.oNil fNd 24).pm (by repeat (first | exact pm_refl _ | exact Pm.nil _ | constructor | refine pm_skip ?_))⟩
          · omega)
       | (have q_ := c1p
          exact ⟨_, resc rfl rfl (run_loadVarN agg24 rfl (H69.ats (by repeat constructor))), nd0, (a + 1), false, none, 0, rfl, .dash (by omega) (by omega), (H69.oNil fNd 24).pm (by repeat (first | exact pm_refl _ | exact Pm.nil _ | constructor | refine pm_skip ?_))⟩)
       | exact ⟨_, resc rfl rfl (run_loadVarN agg24 rfl (H69.ats (by repeat constructor))), nd0, a, true, none, 0, rfl, .off (by omega), (H69.oNil fNd 24).pm (by repeat (first | exact pm_refl _ | exact Pm.nil _ | constructor | refine pm_skip ?_))⟩
    have g71p := oF g71
    refine ws_v rfl rfl rfl (v_move rfl) ?_
    refine ws_on' rfl rfl g71 ?_
    refine ws_v rfl rfl rfl (v_neq rfl rfl) ?_
    refine ws_v rfl rfl rfl (v_pick_f rfl g71 rfl) ?_
    refine ws_v rfl rfl rfl (v_move rfl) ?_
    refine ws_guard rfl rfl rfl (fun g75 => ?_) (fun g75 => ?_)
    rotate_left
    ·have g75p := of_nd_t g75
     refine ws_off rfl rfl g75 rfl ?_
     refine ws_off rfl rfl g75 rfl ?_
     refine ws_off rfl rfl g75 rfl ?_
     refine ws_off rfl rfl g75 rfl ?_
     refine ws_off rfl rfl g75 rfl ?_
     refine ws_off rfl rfl g75 rfl ?_
     refine ws_off rfl rfl g75 rfl ?_
     refine ws_off rfl rfl g75 rfl ?_
     refine ws_off rfl rfl g75 rfl ?_
     refine ws_off rfl rfl g75 rfl ?_
     refine ws_off rfl rfl g75 rfl ?_
     refine ws_v rfl rfl rfl (v_pick_t rfl g75 rfl) ?_
     refine ws_nil ?_
     refine wc_cond_t rfl ?_
     refine wcR ?_
     refine wM ?_
     refine wV (v_nil rfl) ?_
     refine wV (v_fb (o2 := 2) fa96_2 rfl rfl) ?_
     refine wl_store (vs := [_]) Hd (by repeat constructor) sz4 rfl rfl rfl rfl rfl (by (repeat constructor)) ?_
     intro w62 H63 hw62
     refine wl_nil ?_
     refine wcR ?_
     refine wV (v_bld ba24 rfl (by repeat constructor)) ?_
     refine wl_store (vs := [_, _, _, _]) H63 (by repeat constructor) sz24 rfl rfl rfl rfl rfl (by (repeat constructor)) ?_
     intro w64 H65 hw64
     refine wl_nil ?_
     refine wc_ret ?_
     first
       | (have q_ := c10p
          exact ⟨_, resc rfl rfl (run_loadVarN agg24 rfl (H65.ats (by repeat constructor))), .mk ⟨3, (s.extract a z), 0⟩ (ks ++ [tk_]), z2 + 1, false, A239, c239, rfl, hcl.last hat hRk (by omega) (by omega), H65.pm (by repeat (first | exact pm_refl _ | exact Pm.nil _ | constructor | refine pm_skip ?_))⟩)
       | (have q_ := c8p
          exact ⟨_, resc rfl rfl (run_loadVarN agg24 rfl (H65.ats (by repeat constructor))), .mk ⟨3, (s.extract a z), 0⟩ ks, z1 + i, true, A1, c1_, rfl, hcl.nosep (by omega) (by omega) (fun h_ => by have h1_ := (h_.bya (k := i) (by omega)); omega), H65.pm (by repeat (first | exact pm_refl _ | exact Pm.nil _ | constructor | refine pm_skip ?_))⟩)
       | (have q_ := hcl
          exact ⟨_, resc rfl rfl (run_loadVarN agg24 rfl (H65.ats (by repeat constructor))), .mk ⟨3, (s.extract a z), 0⟩ ks, z1, true, A1, c1_, rfl, hcl.2 rfl, H65.pm (by repeat (first | exact pm_refl _ | exact Pm.nil _ | constructor | refine pm_skip ?_))⟩)
       | (have q_ := hW
          exact ⟨_, resc rfl rfl (run_loadVarN agg24 rfl (H65.ats (by repeat constructor))), .mk ⟨3, (s.extract a z), 0⟩ [], z, false, none, 0, rfl, .leaf hW (by omega), (H65.oNil fNd 24).pm (by repeat (first | exact pm_refl _ | exact Pm.nil _ | constructor | refine pm_skip ?_))⟩)
       | (have q_ := c5p
          obtain rfl : z = a := by omega
          exact ⟨_, resc rfl rfl (run_loadVarN agg24 rfl (H65.ats (by repeat constructor))), nd0, z, true, none, 0, rfl, .nwd (by omega) (by omega) (by omega) (hmx (by omega) (by omega)), (H65.oNil fNd 24).pm (by repeat (first | exact pm_refl _ | exact Pm.nil _ | constructor | refine pm_skip ?_))⟩)
       | (have q_ := hQd
          exact ⟨_, resc rfl rfl (run_loadVarN agg24 rfl (H65.ats (by repeat constructor))), nd0, a, true, none, 0, rfl, .ntx (by omega) (by omega) (qd_no hQd (by first | exact .inl (by omega) | exact .inr c3p)), (H65.oNil fNd 24).pm (by repeat (first | exact pm_refl _ | exact Pm.nil _ | constructor | refine pm_skip ?_))⟩)
       | (have q_ := hQd
          rcases hQd with ⟨h1_, h2_, h3_, h4_, h5_, h6_⟩ | h_
          · exact ⟨_, resc rfl rfl (run_loadVarN agg24 rfl (H65.ats (by repeat constructor))), .mk ⟨2, vq, 0⟩ [], zq, false, none, 0, rfl, .txt (by omega) (by omega) h3_ h4_ h5_ (by first | exact c3p.symm | exact (of_not_ne c3p).symm) h6_, (H65.oNil fNd 24).pm (by repeat (first | exact pm_refl _ | exact Pm.nil _ | constructor | refine pm_skip ?_))⟩
          · omega)
       | (have q_ := c1p
          exact ⟨_, resc rfl rfl (run_loadVarN agg24 rfl (H65.ats (by repeat constructor))), nd0, (a + 1), false, none, 0, rfl, .dash (by omega) (by omega), (H65.oNil fNd 24).pm (by repeat (first | exact pm_refl _ | exact Pm.nil _ | constructor | refine pm_skip ?_))⟩)
       | exact ⟨_, resc rfl rfl (run_loadVarN agg24 rfl (H65.ats (by repeat constructor))), nd0, a, true, none, 0, rfl, .off (by omega), (H65.oNil fNd 24).pm (by repeat (first | exact pm_refl _ | exact Pm.nil _ | constructor | refine pm_skip ?_))⟩
    have g75p := of_nd_f g75
    refine ws_v rfl rfl rfl (v_move rfl) ?_
    refine ws_on' rfl rfl g75 ?_
    refine ws_v rfl rfl rfl (v_move rfl) ?_
    refine ws_on' rfl rfl g75 ?_
    refine ws_v rfl rfl rfl (v_nil rfl) ?_
    refine ws_on' rfl rfl g75 ?_
    refine ws_v rfl rfl rfl (v_fb (o2 := 0) fa96_0 rfl rfl) ?_
    refine ws_on' rfl rfl g75 ?_
    refine ws_v rfl rfl rfl (v_load one9 rfl (Hd.at (by repeat constructor) rfl)) ?_
    refine ws_on' rfl rfl g75 ?_
    refine ws_v rfl rfl rfl (v_move rfl) ?_
    refine ws_on' rfl rfl g75 ?_
    refine ws_v rfl rfl rfl (v_nil rfl) ?_
    refine ws_on' rfl rfl g75 ?_
    refine ws_v rfl rfl rfl (v_fb (o2 := 1) fa96_1 rfl rfl) ?_
    refine ws_on' rfl rfl g75 ?_
    refine ws_v rfl rfl rfl (v_load one3 rfl (Hd.at (by repeat constructor) rfl)) ?_
    refine ws_on' rfl rfl g75 ?_
    refine ws_v rfl rfl rfl (v_move rfl) ?_
    refine ws_on' rfl rfl g75 ?_
    refine ws_v rfl rfl rfl (v_cut Try.underlying9 rfl rfl rfl (by omega) (by omega) (by omega)) ?_
    rw [Int.toNat_natCast, Int.toNat_natCast]
    refine ws_on' rfl rfl g75 ?_
    refine ws_v rfl rfl rfl (v_neqs rfl rfl) ?_
    refine ws_v rfl rfl rfl (v_pick_f rfl g75 rfl) ?_
    refine ws_nil ?_
    refine wc_cond rfl (fun c3 => ?_) (fun c3 => ?_)
    ·have c3p := of_nd_t c3
     refine wcR ?_
     refine wM ?_
     refine wV (v_nil rfl) ?_
     refine wV (v_fb (o2 := 2) fa96_2 rfl rfl) ?_
     refine wl_store (vs := [_]) Hd (by repeat constructor) sz4 rfl rfl rfl rfl rfl (by (repeat constructor)) ?_
     intro w54 H55 hw54
     refine wl_nil ?_
     refine wcR ?_
     refine wV (v_bld ba24 rfl (by repeat constructor)) ?_
     refine wl_store (vs := [_, _, _, _]) H55 (by repeat constructor) sz24 rfl rfl rfl rfl rfl (by (repeat constructor)) ?_
     intro w56 H57 hw56
     refine wl_nil ?_
     refine wc_ret ?_
     first
       | (have q_ := c10p
          exact ⟨_, resc rfl rfl (run_loadVarN agg24 rfl (H57.ats (by repeat constructor))), .mk ⟨3, (s.extract a z), 0⟩ (ks ++ [tk_]), z2 + 1, false, A239, c239, rfl, hcl.last hat hRk (by omega) (by omega), H57.pm (by repeat (first | exact pm_refl _ | exact Pm.nil _ | constructor | refine pm_skip ?_))⟩)
       | (have q_ := c8p
          exact ⟨_, resc rfl rfl (run_loadVarN agg24 rfl (H57.ats (by repeat constructor))), .mk ⟨3, (s.extract a z), 0⟩ ks, z1 + i, true, A1, c1_, rfl, hcl.nosep (by omega) (by omega) (fun h_ => by have h1_ := (h_.bya (k := i) (by omega)); omega), H57.pm (by repeat (first | exact pm_refl _ | exact Pm.nil _ | constructor | refine pm_skip ?_))⟩)
       | (have q_ := hcl
          exact ⟨_, resc rfl rfl (run_loadVarN agg24 rfl (H57.ats (by repeat constructor))), .mk ⟨3, (s.extract a z), 0⟩ ks, z1, true, A1, c1_, rfl, hcl.2 rfl, H57.pm (by repeat (first | exact pm_refl _ | exact Pm.nil _ | constructor | refine pm_skip ?_))⟩)
       | (have q_ := hW
          exact ⟨_, resc rfl rfl (run_loadVarN agg24 rfl (H57.ats (by repeat constructor))), .mk ⟨3, (s.extract a z), 0⟩ [], z, false, none, 0, rfl, .leaf hW (by omega), (H57.oNil fNd 24).pm (by repeat (first | exact pm_refl _ | exact Pm.nil _ | constructor | refine pm_skip ?_))⟩)
       | (have q_ := c5p
          obtain rfl : z = a := by omega
          exact ⟨_, resc rfl rfl (run_loadVarN agg24 rfl (H57.ats (by repeat constructor))), nd0, z, true, none, 0, rfl, .nwd (by omega) (by omega) (by omega) (hmx (by omega) (by omega)), (H57.oNil fNd 24).pm (by repeat (first | exact pm_refl _ | exact Pm.nil _ | constructor | refine pm_skip ?_))⟩)
       | (have q_ := hQd
          exact ⟨_, resc rfl rfl (run_loadVarN agg24 rfl (H57.ats (by repeat constructor))), nd0, a, true, none, 0, rfl, .ntx (by omega) (by omega) (qd_no hQd (by first | exact .inl (by omega) | exact .inr c3p)), (H57.oNil fNd 24).pm (by repeat (first | exact pm_refl _ | exact Pm.nil _ | constructor | refine pm_skip ?_))⟩)
       | (have q_ := hQd
          rcases hQd with ⟨h1_, h2_, h3_, h4_, h5_, h6_⟩ | h_
          · exact ⟨_, resc rfl rfl (run_loadVarN agg24 rfl (H57.ats (by repeat constructor))), .mk ⟨2, vq, 0⟩ [], zq, false, none, 0, rfl, .txt (by omega) (by omega) h3_ h4_ h5_ (by first | exact c3p.symm | exact (of_not_ne c3p).symm) h6_, (H57.oNil fNd 24).pm (by repeat (first | exact pm_refl _ | exact Pm.nil _ | constructor | refine pm_skip ?_))⟩
          · omega)
       | (have q_ := c1p
          exact ⟨_, resc rfl rfl (run_loadVarN agg24 rfl (H57.ats (by repeat constructor))), nd0, (a + 1), false, none, 0, rfl, .dash (by omega) (by omega), (H57.oNil fNd 24).pm (by repeat (first | exact pm_refl _ | exact Pm.nil _ | constructor | refine pm_skip ?_))⟩)
       | exact ⟨_, resc rfl rfl (run_loadVarN agg24 rfl (H57.ats (by repeat constructor))), nd0, a, true, none, 0, rfl, .off (by omega), (H57.oNil fNd 24).pm (by repeat (first | exact pm_refl _ | exact Pm.nil _ | constructor | refine pm_skip ?_))⟩
    have c3p := of_nd_f c3
    refine wc_skip ?_
    refine wcR ?_
    refine wM ?_
    refine wM ?_
    refine wV (v_nil rfl) ?_
    refine wV (v_fb (o2 := 1) fa96_1 rfl rfl) ?_
    refine wl_store (vs := [_]) Hd (by repeat constructor) sz3 rfl rfl rfl rfl rfl (by (repeat constructor)) ?_
    intro w58 H59 hw58
    refine wl_nil ?_
    refine wcR ?_
    refine wM ?_
    refine wV (v_bld ba24 rfl (by repeat constructor)) ?_
    refine wl_store (vs := [_, _, _, _]) H59 (by repeat constructor) sz24 rfl rfl rfl rfl rfl (by (repeat constructor)) ?_
    intro w60 H61 hw60
    refine wl_nil ?_
    refine wc_ret ?_
    first
      | (have q_ := c10p
         exact ⟨_, resc rfl rfl (run_loadVarN agg24 rfl (H61.ats (by repeat constructor))), .mk ⟨3, (s.extract a z), 0⟩ (ks ++ [tk_]), z2 + 1, false, A239, c239, rfl, hcl.last hat hRk (by omega) (by omega), H61.pm (by repeat (first | exact pm_refl _ | exact Pm.nil _ | constructor | refine pm_skip ?_))⟩)
      | (have q_ := c8p
         exact ⟨_, resc rfl rfl (run_loadVarN agg24 rfl (H61.ats (by repeat constructor))), .mk ⟨3, (s.extract a z), 0⟩ ks, z1 + i, true, A1, c1_, rfl, hcl.nosep (by omega) (by omega) (fun h_ => by have h1_ := (h_.bya (k := i) (by omega)); omega), H61.pm (by repeat (first | exact pm_refl _ | exact Pm.nil _ | constructor | refine pm_skip ?_))⟩)
      | (have q_ := hcl
         exact ⟨_, resc rfl rfl (run_loadVarN agg24 rfl (H61.ats (by repeat constructor))), .mk ⟨3, (s.extract a z), 0⟩ ks, z1, true, A1, c1_, rfl, hcl.2 rfl, H61.pm (by repeat (first | exact pm_refl _ | exact Pm.nil _ | constructor | refine pm_skip ?_))⟩)
      | (have q_ := hW
         exact ⟨_, resc rfl rfl (run_loadVarN agg24 rfl (H61.ats (by repeat constructor))), .mk ⟨3, (s.extract a z), 0⟩ [], z, false, none, 0, rfl, .leaf hW (by omega), (H61.oNil fNd 24).pm (by repeat (first | exact pm_refl _ | exact Pm.nil _ | constructor | refine pm_skip ?_))⟩)
      | (have q_ := c5p
         obtain rfl : z = a := by omega
         exact ⟨_, resc rfl rfl (run_loadVarN agg24 rfl (H61.ats (by repeat constructor))), nd0, z, true, none, 0, rfl, .nwd (by omega) (by omega) (by omega) (hmx (by omega) (by omega)), (H61.oNil fNd 24).pm (by repeat (first | exact pm_refl _ | exact Pm.nil _ | constructor | refine pm_skip ?_))⟩)
      | (have q_ := hQd
         exact ⟨_, resc rfl rfl (run_loadVarN agg24 rfl (H61.ats (by repeat constructor))), nd0, a, true, none, 0, rfl, .ntx (by omega) (by omega) (qd_no hQd (by first | exact .inl (by omega) | exact .inr c3p)), (H61.oNil fNd 24).pm (by repeat (first | exact pm_refl _ | exact Pm.nil _ | constructor | refine pm_skip ?_))⟩)
      | (have q_ := hQd
         rcases hQd with ⟨h1_, h2_, h3_, h4_, h5_, h6_⟩ | h_
         · exact ⟨_, resc rfl rfl (run_loadVarN agg24 rfl (H61.ats (by repeat constructor))), .mk ⟨2, vq, 0⟩ [], zq, false, none, 0, rfl, .txt (by omega) (by omega) h3_ h4_ h5_ (by first | exact c3p.symm | exact (of_not_ne c3p).symm) h6_, (H61.oNil fNd 24).pm (by repeat (first | exact pm_refl _ | exact Pm.nil _ | constructor | refine pm_skip ?_))⟩
         · omega)
      | (have q_ := c1p
         exact ⟨_, resc rfl rfl (run_loadVarN agg24 rfl (H61.ats (by repeat constructor))), nd0, (a + 1), false, none, 0, rfl, .dash (by omega) (by omega), (H61.oNil fNd 24).pm (by repeat (first | exact pm_refl _ | exact Pm.nil _ | constructor | refine pm_skip ?_))⟩)
      | exact ⟨_, resc rfl rfl (run_loadVarN agg24 rfl (H61.ats (by repeat constructor))), nd0, a, true, none, 0, rfl, .off (by omega), (H61.oNil fNd 24).pm (by repeat (first | exact pm_refl _ | exact Pm.nil _ | constructor | refine pm_skip ?_))⟩
  have c2p := oF c2
  refine wc_skip ?_
  refine wcR ?_
  refine wM ?_
  refine wV (v_nil rfl) ?_
  refine wV (v_fb (o2 := 1) fa96_1 rfl rfl) ?_
  refine wV (v_load one3 rfl (Hd.at (by repeat constructor) rfl)) ?_
  refine wA ?_
  refine wl_nil ?_
  refine wc_cut (σ := Nat) (fun q => [(0, .pointer (some ⟨br, 0, none⟩)), (2, .pointer (some ⟨b2, 0, none⟩)), (9, .int .i64 a)]) (fun q W => ((a ≤ q ∧ q ≤ s.size) ∧ q - a ≤ 32 ∧ (a < q → NameOk 32 (s.extract a q)) ∧ (q < s.size → q - a < 32 → ¬ NameOk 32 (s.extract a (q + 1)))) ∧ Holds w0 (Blk br 96 [.string s, .int .i64 q, .bool false] :: Blk b2 24 [.int .i64 0, .string ⟨#[]⟩, .int .i64 0, .slice none 0 0] :: L) W) ?_ ?_
  ·refine wc_block ?_
   refine wc_loop (σ := Nat) (fun q => [(0, .pointer (some ⟨br, 0, none⟩)), (2, .pointer (some ⟨b2, 0, none⟩)), (9, .int .i64 a)]) (fun q W => ((a ≤ q ∧ q ≤ s.size) ∧ q - a ≤ 32 ∧ (a < q → NameOk 32 (s.extract a q))) ∧ Holds w0 (Blk br 96 [.string s, .int .i64 q, .bool false] :: Blk b2 24 [.int .i64 0, .string ⟨#[]⟩, .int .i64 0, .slice none 0 0] :: L) W) (fun q => s.size - q) a (sc rfl (sc rfl (sc rfl (sn _)))) ⟨⟨⟨Nat.le_refl _, ha⟩, by omega, fun h => absurd h (Nat.lt_irrefl _)⟩, Hd.pm (by repeat (first | exact pm_refl _ | exact Pm.nil _ | constructor | refine pm_skip ?_))⟩ ?_
   rintro z W0 ⟨⟨⟨hz0, hz1⟩, hz2, hnm⟩, H⟩
   refine wc_seq ?_
   refine wc_seq ?_
   refine wc_tree [0, 1, 2, 3, 4, 5, 6, 7, 8, 9, 10, 11, 12, 13, 14, 15, 16, 17, 18, 19, 20, 21, 22, 23, 24, 25, 26, 27, 28, 29, 30, 32] (fun W => Holds w0 (Blk br 96 [.string s, .int .i64 z, .bool false] :: Blk b2 24 [.int .i64 0, .string ⟨#[]⟩, .int .i64 0, .slice none 0 0] :: L) W) mixed ?_
   have Hd := H.drew
   have HSd : Holds w0 (Blk br 96 [.string s, .int .i64 z, .bool false] :: Blk b2 24 [.int .i64 0, .string ⟨#[]⟩, .int .i64 0, .slice none 0 0] :: L) _ := Hd.pm (by repeat (first | exact pm_refl _ | exact Pm.nil _ | constructor | refine pm_skip ?_))
   refine wjV (k := 0) rfl HSd (fun W HW => v_move rfl) ?_
   refine wjV (k := 1) rfl HSd (fun W HW => v_nil rfl) ?_
   refine wjV (k := 2) rfl HSd (fun W HW => v_fb (o2 := 1) fa96_1 rfl rfl) ?_
   refine wjV (k := 3) rfl HSd (fun W HW => v_load one3 rfl (HW.at (by repeat constructor) rfl)) ?_
   refine wjV (k := 4) rfl HSd (fun W HW => v_move rfl) ?_
   refine wjV (k := 5) rfl HSd (fun W HW => v_nil rfl) ?_
   refine wjV (k := 6) rfl HSd (fun W HW => v_fb (o2 := 0) fa96_0 rfl rfl) ?_
   refine wjV (k := 7) rfl HSd (fun W HW => v_load one9 rfl (HW.at (by repeat constructor) rfl)) ?_
   refine wjV (k := 8) rfl HSd (fun W HW => v_lens Try.underlying9 rfl) ?_
   refine wjV (k := 9) rfl HSd (fun W HW => v_lss rfl rfl) ?_
   refine wjV (k := 10) rfl HSd (fun W HW => v_move rfl) ?_
   refine wj_guard (dj := 113) rfl (fun g113 => ?_) (fun g113 => ?_)
   rotate_left
   ·have g113p := oF g113
    refine wj_off (k := 11) rfl (by kernel_rfl) (fun _ _ _ h => h) rfl rfl g113 HSd rfl ?_
    refine wj_off (k := 12) rfl (by kernel_rfl) (fun _ _ _ h => h) rfl rfl g113 HSd rfl ?_
    refine wj_off (k := 13) rfl (by kernel_rfl) (fun _ _ _ h => h) rfl rfl g113 HSd rfl ?_
    refine wj_off (k := 14) rfl (by kernel_rfl) (fun _ _ _ h => h) rfl rfl g113 HSd rfl ?_
    refine wj_off (k := 15) rfl (by kernel_rfl) (fun _ _ _ h => h) rfl rfl g113 HSd rfl ?_
    refine wj_off (k := 16) rfl (by kernel_rfl) (fun _ _ _ h => h) rfl rfl g113 HSd rfl ?_
    refine wj_off (k := 17) rfl (by kernel_rfl) (fun _ _ _ h => h) rfl rfl g113 HSd rfl ?_
    refine wjV (k := 18) rfl HSd (fun W HW => v_pick_f rfl g113 rfl) ?_
    refine wjV (k := 19) rfl HSd (fun W HW => v_move rfl) ?_
    refine wj_off (k := 20) rfl (by kernel_rfl) (fun _ _ _ h => h) rfl rfl rfl HSd rfl ?_
    refine wj_off (k := 21) rfl (by kernel_rfl) (fun _ _ _ h => h) rfl rfl rfl HSd rfl ?_
    refine wj_off (k := 22) rfl (by kernel_rfl) (fun _ _ _ h => h) rfl rfl rfl HSd rfl ?_
    refine wj_off (k := 23) rfl (by kernel_rfl) (fun _ _ _ h => h) rfl rfl rfl HSd rfl ?_
    refine wj_off (k := 24) rfl (by kernel_rfl) (fun _ _ _ h => h) rfl rfl rfl HSd rfl ?_
    refine wj_off (k := 25) rfl (by kernel_rfl) (fun _ _ _ h => h) rfl rfl rfl HSd rfl ?_
    refine wj_off (k := 26) rfl (by kernel_rfl) (fun _ _ _ h => h) rfl rfl rfl HSd rfl ?_
    refine wj_off (k := 27) rfl (by kernel_rfl) (fun _ _ _ h => h) rfl rfl rfl HSd rfl ?_
    refine wj_off (k := 28) rfl (by kernel_rfl) (fun _ _ _ h => h) rfl rfl rfl HSd rfl ?_
    refine wj_off (k := 29) rfl (by kernel_rfl) (fun _ _ _ h => h) rfl rfl rfl HSd rfl ?_
    refine wj_off (k := 30) rfl (by kernel_rfl) (fun _ _ _ h => h) rfl rfl rfl HSd rfl ?_
    refine wj_t (k := 31) rfl (by kernel_rfl) ?_
    refine wF rfl ?_
    have HS76 : Holds w0 (Blk br 96 [.string s, .int .i64 z, .bool false] :: Blk b2 24 [.int .i64 0, .string ⟨#[]⟩, .int .i64 0, .slice none 0 0] :: L) _ := Hd.pm (by repeat (first | exact pm_refl _ | exact Pm.nil _ | constructor | refine pm_skip ?_))
    refine wl_nil (tn ⟨fun _ => HS76, ?_⟩)
    refine wjV (k := 32) rfl HS76 (fun W HW => v_pick_f rfl rfl rfl) ?_
    refine wj_done (by kernel_rfl) ?_
    refine wc_cond_f rfl ?_
    refine wc_exit ?_
    exact ⟨z, (sc rfl (sc rfl (sc rfl (sn _)))), ⟨⟨⟨hz0, hz1⟩, hz2, hnm, fun h1_ h2_ => by first | omega | exact of_ndec c4 | exact of_ndec (of_n_f c4) | exact of_ndec (of_n_t c4)⟩, Hd.pm (by repeat (first | exact pm_refl _ | exact Pm.nil _ | constructor | refine pm_skip ?_))⟩⟩
   have g113p := oT g113
   refine wj_vg (k := 11) rfl (by kernel_rfl) (fun _ _ _ h => h) rfl rfl g113 HSd rfl (fun W HW => v_move rfl) ?_
   refine wj_vg (k := 12) rfl (by kernel_rfl) (fun _ _ _ h => h) rfl rfl g113 HSd rfl (fun W HW => v_nil rfl) ?_
   refine wj_vg (k := 13) rfl (by kernel_rfl) (fun _ _ _ h => h) rfl rfl g113 HSd rfl (fun W HW => v_fb (o2 := 1) fa96_1 rfl rfl) ?_
   refine wj_vg (k := 14) rfl (by kernel_rfl) (fun _ _ _ h => h) rfl rfl g113 HSd rfl (fun W HW => v_load one3 rfl (HW.at (by repeat constructor) rfl)) ?_
   refine wj_vg (k := 15) rfl (by kernel_rfl) (fun _ _ _ h => h) rfl rfl g113 HSd rfl (fun W HW => v_move rfl) ?_
   refine wj_vg (k := 16) rfl (by kernel_rfl) (fun _ _ _ h => h) rfl rfl g113 HSd rfl (fun W HW => v_subi rfl rfl (by omega)) ?_
   refine wj_vg (k := 17) rfl (by kernel_rfl) (fun _ _ _ h => h) rfl rfl g113 HSd rfl (fun W HW => v_lss rfl rfl) ?_
   refine wjV (k := 18) rfl HSd (fun W HW => v_pick_t rfl g113 rfl) ?_
   refine wjV (k := 19) rfl HSd (fun W HW => v_move rfl) ?_
   refine wj_guard (dj := 122) rfl (fun g122 => ?_) (fun g122 => ?_)
   rotate_left
   ·have g122p := oF g122
    refine wj_off (k := 20) rfl (by kernel_rfl) (fun _ _ _ h => h) rfl rfl g122 HSd rfl ?_
    refine wj_off (k := 21) rfl (by kernel_rfl) (fun _ _ _ h => h) rfl rfl g122 HSd rfl ?_
    refine wj_off (k := 22) rfl (by kernel_rfl) (fun _ _ _ h => h) rfl rfl g122 HSd rfl ?_
    refine wj_off (k := 23) rfl (by kernel_rfl) (fun _ _ _ h => h) rfl rfl g122 HSd rfl ?_
    refine wj_off (k := 24) rfl (by kernel_rfl) (fun _ _ _ h => h) rfl rfl g122 HSd rfl ?_
    refine wj_off (k := 25) rfl (by kernel_rfl) (fun _ _ _ h => h) rfl rfl g122 HSd rfl ?_
    refine wj_off (k := 26) rfl (by kernel_rfl) (fun _ _ _ h => h) rfl rfl g122 HSd rfl ?_
    refine wj_off (k := 27) rfl (by kernel_rfl) (fun _ _ _ h => h) rfl rfl g122 HSd rfl ?_
    refine wj_off (k := 28) rfl (by kernel_rfl) (fun _ _ _ h => h) rfl rfl g122 HSd rfl ?_
    refine wj_off (k := 29) rfl (by kernel_rfl) (fun _ _ _ h => h) rfl rfl g122 HSd rfl ?_
    refine wj_off (k := 30) rfl (by kernel_rfl) (fun _ _ _ h => h) rfl rfl g122 HSd rfl ?_
    refine wj_t (k := 31) rfl (by kernel_rfl) ?_
    refine wF g122 ?_
    have HS75 : Holds w0 (Blk br 96 [.string s, .int .i64 z, .bool false] :: Blk b2 24 [.int .i64 0, .string ⟨#[]⟩, .int .i64 0, .slice none 0 0] :: L) _ := Hd.pm (by repeat (first | exact pm_refl _ | exact Pm.nil _ | constructor | refine pm_skip ?_))
    refine wl_nil (tn ⟨fun _ => HS75, ?_⟩)
    refine wjV (k := 32) rfl HS75 (fun W HW => v_pick_f rfl g122 rfl) ?_
    refine wj_done (by kernel_rfl) ?_
    refine wc_cond_f rfl ?_
    refine wc_exit ?_
    exact ⟨z, (sc rfl (sc rfl (sc rfl (sn _)))), ⟨⟨⟨hz0, hz1⟩, hz2, hnm, fun h1_ h2_ => by first | omega | exact of_ndec c4 | exact of_ndec (of_n_f c4) | exact of_ndec (of_n_t c4)⟩, Hd.pm (by repeat (first | exact pm_refl _ | exact Pm.nil _ | constructor | refine pm_skip ?_))⟩⟩
   have g122p := oT g122
   refine wj_vg (k := 20) rfl (by kernel_rfl) (fun _ _ _ h => h) rfl rfl g122 HSd rfl (fun W HW => v_move rfl) ?_
   refine wj_vg (k := 21) rfl (by kernel_rfl) (fun _ _ _ h => h) rfl rfl g122 HSd rfl (fun W HW => v_nil rfl) ?_
   refine wj_vg (k := 22) rfl (by kernel_rfl) (fun _ _ _ h => h) rfl rfl g122 HSd rfl (fun W HW => v_fb (o2 := 0) fa96_0 rfl rfl) ?_
   refine wj_vg (k := 23) rfl (by kernel_rfl) (fun _ _ _ h => h) rfl rfl g122 HSd rfl (fun W HW => v_load one9 rfl (HW.at (by repeat constructor) rfl)) ?_
   refine wj_vg (k := 24) rfl (by kernel_rfl) (fun _ _ _ h => h) rfl rfl g122 HSd rfl (fun W HW => v_move rfl) ?_
   refine wj_vg (k := 25) rfl (by kernel_rfl) (fun _ _ _ h => h) rfl rfl g122 HSd rfl (fun W HW => v_move rfl) ?_
   refine wj_vg (k := 26) rfl (by kernel_rfl) (fun _ _ _ h => h) rfl rfl g122 HSd rfl (fun W HW => v_nil rfl) ?_
   refine wj_vg (k := 27) rfl (by kernel_rfl) (fun _ _ _ h => h) rfl rfl g122 HSd rfl (fun W HW => v_fb (o2 := 1) fa96_1 rfl rfl) ?_
   refine wj_vg (k := 28) rfl (by kernel_rfl) (fun _ _ _ h => h) rfl rfl g122 HSd rfl (fun W HW => v_load one3 rfl (HW.at (by repeat constructor) rfl)) ?_
   refine wj_vg (k := 29) rfl (by kernel_rfl) (fun _ _ _ h => h) rfl rfl g122 HSd rfl (fun W HW => v_addi rfl rfl (by omega)) ?_
   refine wj_vg (k := 30) rfl (by kernel_rfl) (fun _ _ _ h => h) rfl rfl g122 HSd rfl (fun W HW => v_cut Try.underlying9 rfl rfl rfl (by omega) (by omega) (by omega)) ?_
   rw [Int.toNat_natCast, show ((z : Int) + 1).toNat = z + 1 by omega]
   refine wj_t (k := 31) rfl (by kernel_rfl) ?_
   refine wO g122 ?_
   refine wl_call en55 rfl rfl (word_calls (by rw [ByteArray.size_extract]; omega)) ?_
   rintro _ w70 ⟨rfl, Hc⟩
   have H71 := Hd.call0 Hc
   have HS72 : Holds w0 (Blk br 96 [.string s, .int .i64 z, .bool false] :: Blk b2 24 [.int .i64 0, .string ⟨#[]⟩, .int .i64 0, .slice none 0 0] :: L) _ := H71.pm (by repeat (first | exact pm_refl _ | exact Pm.nil _ | constructor | refine pm_skip ?_))
   refine wl_nil (tn ⟨fun _ => HS72, ?_⟩)
   refine wjV (k := 32) rfl HS72 (fun W HW => v_pick_t rfl g122 rfl) ?_
   refine wj_done (by kernel_rfl) ?_
   refine wc_cond rfl (fun c4 => ?_) (fun c4 => ?_)
   rotate_left
   ·refine wc_exit ?_
    exact ⟨z, (sc rfl (sc rfl (sc rfl (sn _)))), ⟨⟨⟨hz0, hz1⟩, hz2, hnm, fun h1_ h2_ => by first | omega | exact of_ndec c4 | exact of_ndec (of_n_f c4) | exact of_ndec (of_n_t c4)⟩, H71.pm (by repeat (first | exact pm_refl _ | exact Pm.nil _ | constructor | refine pm_skip ?_))⟩⟩
   refine wc_skip ?_
   refine wc_block ?_
   refine wc_region ?_
   refine wM ?_
   refine wV (v_nil rfl) ?_
   refine wV (v_fb (o2 := 1) fa96_1 rfl rfl) ?_
   refine wV (v_load one3 rfl (H71.at (by repeat constructor) rfl)) ?_
   refine wV (v_addi rfl rfl (by omega)) ?_
   refine wV (v_nil rfl) ?_
   refine wV (v_fb (o2 := 1) fa96_1 rfl rfl) ?_
   refine wl_store (vs := [_]) H71 (by repeat constructor) sz3 rfl rfl rfl rfl rfl (by (repeat constructor)) ?_
   intro w73 H74 hw73
   refine wl_nil ?_
   exact ⟨z + 1, (sc rfl (sc rfl (sc rfl (sn _)))), ⟨⟨⟨by omega, by omega⟩, by omega, fun _ => of_dec (by first | exact c4 | exact of_n_t c4 | exact of_n_f c4)⟩, H74.pm (by repeat (first | exact pm_refl _ | exact Pm.nil _ | constructor | refine pm_skip ?_))⟩, by omega⟩
  rintro z Wm ⟨⟨⟨hz0, hz1⟩, hz2, hnm, hmx⟩, H⟩
  refine wc_seq ?_
  refine wcR ?_
  refine wM ?_
  refine wV (v_nil rfl) ?_
  refine wV (v_fb (o2 := 1) fa96_1 rfl rfl) ?_
  refine wV (v_load one3 rfl (H.at (by repeat constructor) rfl)) ?_
  refine wM ?_
  refine wV (v_eql rfl rfl) ?_
  refine wl_nil ?_
  refine wc_cond rfl (fun c5 => ?_) (fun c5 => ?_)
  ·have c5p := oT c5
   refine wcR ?_
   refine wM ?_
   refine wV (v_nil rfl) ?_
   refine wV (v_fb (o2 := 2) fa96_2 rfl rfl) ?_
   refine wl_store (vs := [_]) H (by repeat constructor) sz4 rfl rfl rfl rfl rfl (by (repeat constructor)) ?_
   intro w77 H78 hw77
   refine wl_nil ?_
   refine wcR ?_
   refine wV (v_bld ba24 rfl (by repeat constructor)) ?_
   refine wl_store (vs := [_, _, _, _]) H78 (by repeat constructor) sz24 rfl rfl rfl rfl rfl (by (repeat constructor)) ?_
   intro w79 H80 hw79
   refine wl_nil ?_
   refine wc_ret ?_
   first
     | (have q_ := c10p
        exact ⟨_, resc rfl rfl (run_loadVarN agg24 rfl (H80.ats (by repeat constructor))), .mk ⟨3, (s.extract a z), 0⟩ (ks ++ [tk_]), z2 + 1, false, A239, c239, rfl, hcl.last hat hRk (by omega) (by omega), H80.pm (by repeat (first | exact pm_refl _ | exact Pm.nil _ | constructor | refine pm_skip ?_))⟩)
     | (have q_ := c8p
        exact ⟨_, resc rfl rfl (run_loadVarN agg24 rfl (H80.ats (by repeat constructor))), .mk ⟨3, (s.extract a z), 0⟩ ks, z1 + i, true, A1, c1_, rfl, hcl.nosep (by omega) (by omega) (fun h_ => by have h1_ := (h_.bya (k := i) (by omega)); omega), H80.pm (by repeat (first | exact pm_refl _ | exact Pm.nil _ | constructor | refine pm_skip ?_))⟩)
     | (have q_ := hcl
        exact ⟨_, resc rfl rfl (run_loadVarN agg24 rfl (H80.ats (by repeat constructor))), .mk ⟨3, (s.extract a z), 0⟩ ks, z1, true, A1, c1_, rfl, hcl.2 rfl, H80.pm (by repeat (first | exact pm_refl _ | exact Pm.nil _ | constructor | refine pm_skip ?_))⟩)
     | (have q_ := hW
        exact ⟨_, resc rfl rfl (run_loadVarN agg24 rfl (H80.ats (by repeat constructor))), .mk ⟨3, (s.extract a z), 0⟩ [], z, false, none, 0, rfl, .leaf hW (by omega), (H80.oNil fNd 24).pm (by repeat (first | exact pm_refl _ | exact Pm.nil _ | constructor | refine pm_skip ?_))⟩)
     | (have q_ := c5p
        obtain rfl : z = a := by omega
        exact ⟨_, resc rfl rfl (run_loadVarN agg24 rfl (H80.ats (by repeat constructor))), nd0, z, true, none, 0, rfl, .nwd (by omega) (by omega) (by omega) (hmx (by omega) (by omega)), (H80.oNil fNd 24).pm (by repeat (first | exact pm_refl _ | exact Pm.nil _ | constructor | refine pm_skip ?_))⟩)
     | (have q_ := hQd
        exact ⟨_, resc rfl rfl (run_loadVarN agg24 rfl (H80.ats (by repeat constructor))), nd0, a, true, none, 0, rfl, .ntx (by omega) (by omega) (qd_no hQd (by first | exact .inl (by omega) | exact .inr c3p)), (H80.oNil fNd 24).pm (by repeat (first | exact pm_refl _ | exact Pm.nil _ | constructor | refine pm_skip ?_))⟩)
     | (have q_ := hQd
        rcases hQd with ⟨h1_, h2_, h3_, h4_, h5_, h6_⟩ | h_
        · exact ⟨_, resc rfl rfl (run_loadVarN agg24 rfl (H80.ats (by repeat constructor))), .mk ⟨2, vq, 0⟩ [], zq, false, none, 0, rfl, .txt (by omega) (by omega) h3_ h4_ h5_ (by first | exact c3p.symm | exact (of_not_ne c3p).symm) h6_, (H80.oNil fNd 24).pm (by repeat (first | exact pm_refl _ | exact Pm.nil _ | constructor | refine pm_skip ?_))⟩
        · omega)
     | (have q_ := c1p
        exact ⟨_, resc rfl rfl (run_loadVarN agg24 rfl (H80.ats (by repeat constructor))), nd0, (a + 1), false, none, 0, rfl, .dash (by omega) (by omega), (H80.oNil fNd 24).pm (by repeat (first | exact pm_refl _ | exact Pm.nil _ | constructor | refine pm_skip ?_))⟩)
     | exact ⟨_, resc rfl rfl (run_loadVarN agg24 rfl (H80.ats (by repeat constructor))), nd0, a, true, none, 0, rfl, .off (by omega), (H80.oNil fNd 24).pm (by repeat (first | exact pm_refl _ | exact Pm.nil _ | constructor | refine pm_skip ?_))⟩
  have c5p := oF c5
  have hW : Wd s a z := ⟨⟨by omega, by omega, by omega⟩, hnm (by omega), hmx⟩
  refine wc_skip ?_
  refine wc_seq ?_
  refine wc_tree [0, 1, 2, 3, 4, 5, 6, 7, 8, 9, 10] (fun W => Holds w0 (Blk br 96 [.string s, .int .i64 z, .bool false] :: Blk b2 24 [.int .i64 0, .string ⟨#[]⟩, .int .i64 0, .slice none 0 0] :: L) W) mixed ?_
  have Hd := H.drew
  have HSd : Holds w0 (Blk br 96 [.string s, .int .i64 z, .bool false] :: Blk b2 24 [.int .i64 0, .string ⟨#[]⟩, .int .i64 0, .slice none 0 0] :: L) _ := Hd.pm (by repeat (first | exact pm_refl _ | exact Pm.nil _ | constructor | refine pm_skip ?_))
  refine wjV (k := 0) rfl HSd (fun W HW => v_move rfl) ?_
  refine wjV (k := 1) rfl HSd (fun W HW => v_nil rfl) ?_
  refine wjV (k := 2) rfl HSd (fun W HW => v_fb (o2 := 0) fa96_0 rfl rfl) ?_
  refine wjV (k := 3) rfl HSd (fun W HW => v_load one9 rfl (HW.at (by repeat constructor) rfl)) ?_
  refine wjV (k := 4) rfl HSd (fun W HW => v_move rfl) ?_
  refine wjV (k := 5) rfl HSd (fun W HW => v_move rfl) ?_
  refine wjV (k := 6) rfl HSd (fun W HW => v_nil rfl) ?_
  refine wjV (k := 7) rfl HSd (fun W HW => v_fb (o2 := 1) fa96_1 rfl rfl) ?_
  refine wjV (k := 8) rfl HSd (fun W HW => v_load one3 rfl (HW.at (by repeat constructor) rfl)) ?_
  refine wjV (k := 9) rfl HSd (fun W HW => v_cut Try.underlying9 rfl rfl rfl (by omega) (by omega) (by omega)) ?_
  rw [Int.toNat_natCast, Int.toNat_natCast]
  refine wjV (k := 10) rfl HSd (fun W HW => v_bld ba24 rfl (by repeat constructor)) ?_
  refine wj_t (k := 11) rfl (by kernel_rfl) ?_
  refine wl_alloc (cs := [.int .i64 0, .string ⟨#[]⟩, .int .i64 0, .slice none 0 0]) Hd rfl zv24 rfl ?_
  intro b10 w81 hb10 H82
  have HS83 : Holds w0 (Blk br 96 [.string s, .int .i64 z, .bool false] :: Blk b2 24 [.int .i64 0, .string ⟨#[]⟩, .int .i64 0, .slice none 0 0] :: L) _ := H82.pm (by repeat (first | exact pm_refl _ | exact Pm.nil _ | constructor | refine pm_skip ?_))
  refine wl_nil (tn ⟨fun _ => HS83, ?_⟩)
  refine wj_t (k := 12) rfl (by kernel_rfl) ?_
  refine wl_store (vs := [_, _, _, _]) H82 (by repeat constructor) sz24 rfl rfl rfl rfl rfl (by (repeat constructor)) ?_
  intro w84 H85 hw84
  refine wl_nil (tn ⟨fun hlt => absurd hlt (by rw [show allH _ _ _ = true by kernel_rfl]; simp), ?_⟩)
  refine wj_done (by kernel_rfl) ?_
  refine wc_seq ?_
  refine wc_seq ?_
  refine wc_still mixed (by kernel_rfl) ?_
  have Hd := H85.drew
  refine ws_v rfl rfl rfl (v_move rfl) ?_
  refine ws_v rfl rfl rfl (v_nil rfl) ?_
  refine ws_v rfl rfl rfl (v_fb (o2 := 1) fa96_1 rfl rfl) ?_
  refine ws_v rfl rfl rfl (v_load one3 rfl (Hd.at (by repeat constructor) rfl)) ?_
  refine ws_v rfl rfl rfl (v_move rfl) ?_
  refine ws_v rfl rfl rfl (v_nil rfl) ?_
  refine ws_v rfl rfl rfl (v_fb (o2 := 0) fa96_0 rfl rfl) ?_
  refine ws_v rfl rfl rfl (v_load one9 rfl (Hd.at (by repeat constructor) rfl)) ?_
  refine ws_v rfl rfl rfl (v_lens Try.underlying9 rfl) ?_
  refine ws_v rfl rfl rfl (v_geq rfl rfl) ?_
  refine ws_v rfl rfl rfl (v_move rfl) ?_
  refine ws_guard rfl rfl rfl (fun g174 => ?_) (fun g174 => ?_)
  rotate_left
  ·have g174p := oT g174
   refine ws_off rfl rfl g174 rfl ?_
   refine ws_off rfl rfl g174 rfl ?_
   refine ws_off rfl rfl g174 rfl ?_
   refine ws_off rfl rfl g174 rfl ?_
   refine ws_off rfl rfl g174 rfl ?_
   refine ws_off rfl rfl g174 rfl ?_
   refine ws_off rfl rfl g174 rfl ?_
   refine ws_off rfl rfl g174 rfl ?_
   refine ws_off rfl rfl g174 rfl ?_
   refine ws_v rfl rfl rfl (v_pick_t rfl g174 rfl) ?_
   refine ws_nil ?_
   refine wc_cond_t rfl ?_
   refine wcR ?_
   refine wV (v_loadN agg24 rfl rfl (Hd.ats (by repeat constructor))) ?_
   refine wl_store (vs := [_, _, _, _]) Hd (by repeat constructor) sz24 rfl rfl rfl rfl rfl (by (repeat constructor)) ?_
   intro w119 H120 hw119
   refine wl_nil ?_
   refine wc_ret ?_
   first
     | (have q_ := c10p
        exact ⟨_, resc rfl rfl (run_loadVarN agg24 rfl (H120.ats (by repeat constructor))), .mk ⟨3, (s.extract a z), 0⟩ (ks ++ [tk_]), z2 + 1, false, A239, c239, rfl, hcl.last hat hRk (by omega) (by omega), H120.pm (by repeat (first | exact pm_refl _ | exact Pm.nil _ | constructor | refine pm_skip ?_))⟩)
     | (have q_ := c8p
        exact ⟨_, resc rfl rfl (run_loadVarN agg24 rfl (H120.ats (by repeat constructor))), .mk ⟨3, (s.extract a z), 0⟩ ks, z1 + i, true, A1, c1_, rfl, hcl.nosep (by omega) (by omega) (fun h_ => by have h1_ := (h_.bya (k := i) (by omega)); omega), H120.pm (by repeat (first | exact pm_refl _ | exact Pm.nil _ | constructor | refine pm_skip ?_))⟩)
     | (have q_ := hcl
        exact ⟨_, resc rfl rfl (run_loadVarN agg24 rfl (H120.ats (by repeat constructor))), .mk ⟨3, (s.extract a z), 0⟩ ks, z1, true, A1, c1_, rfl, hcl.2 rfl, H120.pm (by repeat (first | exact pm_refl _ | exact Pm.nil _ | constructor | refine pm_skip ?_))⟩)
     | (have q_ := hW
        exact ⟨_, resc rfl rfl (run_loadVarN agg24 rfl (H120.ats (by repeat constructor))), .mk ⟨3, (s.extract a z), 0⟩ [], z, false, none, 0, rfl, .leaf hW (by omega), (H120.oNil fNd 24).pm (by repeat (first | exact pm_refl _ | exact Pm.nil _ | constructor | refine pm_skip ?_))⟩)
     | (have q_ := c5p
        obtain rfl : z = a := by omega
        exact ⟨_, resc rfl rfl (run_loadVarN agg24 rfl (H120.ats (by repeat constructor))), nd0, z, true, none, 0, rfl, .nwd (by omega) (by omega) (by omega) (hmx (by omega) (by omega)), (H120.oNil fNd 24).pm (by repeat (first | exact pm_refl _ | exact Pm.nil _ | constructor | refine pm_skip ?_))⟩)
     | (have q_ := hQd
        exact ⟨_, resc rfl rfl (run_loadVarN agg24 rfl (H120.ats (by repeat constructor))), nd0, a, true, none, 0, rfl, .ntx (by omega) (by omega) (qd_no hQd (by first | exact .inl (by omega) | exact .inr c3p)), (H120.oNil fNd 24).pm (by repeat (first | exact pm_refl _ | exact Pm.nil _ | constructor | refine pm_skip ?_))⟩)
     | (have q_ := hQd
        rcases hQd with ⟨h1_, h2_, h3_, h4_, h5_, h6_⟩ | h_
        · exact ⟨_, resc rfl rfl (run_loadVarN agg24 rfl (H120.ats (by repeat constructor))), .mk ⟨2, vq, 0⟩ [], zq, false, none, 0, rfl, .txt (by omega) (by omega) h3_ h4_ h5_ (by first | exact c3p.symm | exact (of_not_ne c3p).symm) h6_, (H120.oNil fNd 24).pm (by repeat (first | exact pm_refl _ | exact Pm.nil _ | constructor | refine pm_skip ?_))⟩
        · omega)
     | (have q_ := c1p
        exact ⟨_, resc rfl rfl (run_loadVarN agg24 rfl (H120.ats (by repeat constructor))), nd0, (a + 1), false, none, 0, rfl, .dash (by omega) (by omega), (H120.oNil fNd 24).pm (by repeat (first | exact pm_refl _ | exact Pm.nil _ | constructor | refine pm_skip ?_))⟩)
     | exact ⟨_, resc rfl rfl (run_loadVarN agg24 rfl (H120.ats (by repeat constructor))), nd0, a, true, none, 0, rfl, .off (by omega), (H120.oNil fNd 24).pm (by repeat (first | exact pm_refl _ | exact Pm.nil _ | constructor | refine pm_skip ?_))⟩
  have g174p := oF g174
  refine ws_v rfl rfl rfl (v_move rfl) ?_
  refine ws_on' rfl rfl g174 ?_
  refine ws_v rfl rfl rfl (v_nil rfl) ?_
  refine ws_on' rfl rfl g174 ?_
  refine ws_v rfl rfl rfl (v_fb (o2 := 0) fa96_0 rfl rfl) ?_
  refine ws_on' rfl rfl g174 ?_
  refine ws_v rfl rfl rfl (v_load one9 rfl (Hd.at (by repeat constructor) rfl)) ?_
  refine ws_on' rfl rfl g174 ?_
  refine ws_v rfl rfl rfl (v_move rfl) ?_
  refine ws_on' rfl rfl g174 ?_
  refine ws_v rfl rfl rfl (v_nil rfl) ?_
  refine ws_on' rfl rfl g174 ?_
  refine ws_v rfl rfl rfl (v_fb (o2 := 1) fa96_1 rfl rfl) ?_
  refine ws_on' rfl rfl g174 ?_
  refine ws_v rfl rfl rfl (v_load one3 rfl (Hd.at (by repeat constructor) rfl)) ?_
  refine ws_on' rfl rfl g174 ?_
  refine ws_v rfl rfl rfl (v_idxA (i := z) (s := s) Try.underlying9 rfl rfl (by omega)) ?_
  refine ws_on' rfl rfl g174 ?_
  refine ws_v rfl rfl rfl (v_neq rfl rfl) ?_
  refine ws_v rfl rfl rfl (v_pick_f rfl g174 rfl) ?_
  refine ws_nil ?_
  refine wc_cond rfl (fun c6 => ?_) (fun c6 => ?_)
  ·have c6p := of_nd_t c6
   refine wcR ?_
   refine wV (v_loadN agg24 rfl rfl (Hd.ats (by repeat constructor))) ?_
   refine wl_store (vs := [_, _, _, _]) Hd (by repeat constructor) sz24 rfl rfl rfl rfl rfl (by (repeat constructor)) ?_
   intro w88 H89 hw88
   refine wl_nil ?_
   refine wc_ret ?_
   first
     | (have q_ := c10p
        exact ⟨_, resc rfl rfl (run_loadVarN agg24 rfl (H89.ats (by repeat constructor))), .mk ⟨3, (s.extract a z), 0⟩ (ks ++ [tk_]), z2 + 1, false, A239, c239, rfl, hcl.last hat hRk (by omega) (by omega), H89.pm (by repeat (first | exact pm_refl _ | exact Pm.nil _ | constructor | refine pm_skip ?_))⟩)
     | (have q_ := c8p
        exact ⟨_, resc rfl rfl (run_loadVarN agg24 rfl (H89.ats (by repeat constructor))), .mk ⟨3, (s.extract a z), 0⟩ ks, z1 + i, true, A1, c1_, rfl, hcl.nosep (by omega) (by omega) (fun h_ => by have h1_ := (h_.bya (k := i) (by omega)); omega), H89.pm (by repeat (first | exact pm_refl _ | exact Pm.nil _ | constructor | refine pm_skip ?_))⟩)
     | (have q_ := hcl
        exact ⟨_, resc rfl rfl (run_loadVarN agg24 rfl (H89.ats (by repeat constructor))), .mk ⟨3, (s.extract a z), 0⟩ ks, z1, true, A1, c1_, rfl, hcl.2 rfl, H89.pm (by repeat (first | exact pm_refl _ | exact Pm.nil _ | constructor | refine pm_skip ?_))⟩)
     | (have q_ := hW
        exact ⟨_, resc rfl rfl (run_loadVarN agg24 rfl (H89.ats (by repeat constructor))), .mk ⟨3, (s.extract a z), 0⟩ [], z, false, none, 0, rfl, .leaf hW (by omega), (H89.oNil fNd 24).pm (by repeat (first | exact pm_refl _ | exact Pm.nil _ | constructor | refine pm_skip ?_))⟩)
     | (have q_ := c5p
        obtain rfl : z = a := by omega
        exact ⟨_, resc rfl rfl (run_loadVarN agg24 rfl (H89.ats (by repeat constructor))), nd0, z, true, none, 0, rfl, .nwd (by omega) (by omega) (by omega) (hmx (by omega) (by omega)), (H89.oNil fNd 24).pm (by repeat (first | exact pm_refl _ | exact Pm.nil _ | constructor | refine pm_skip ?_))⟩)
     | (have q_ := hQd
        exact ⟨_, resc rfl rfl (run_loadVarN agg24 rfl (H89.ats (by repeat constructor))), nd0, a, true, none, 0, rfl, .ntx (by omega) (by omega) (qd_no hQd (by first | exact .inl (by omega) | exact .inr c3p)), (H89.oNil fNd 24).pm (by repeat (first | exact pm_refl _ | exact Pm.nil _ | constructor | refine pm_skip ?_))⟩)
     | (have q_ := hQd
        rcases hQd with ⟨h1_, h2_, h3_, h4_, h5_, h6_⟩ | h_
        · exact ⟨_, resc rfl rfl (run_loadVarN agg24 rfl (H89.ats (by repeat constructor))), .mk ⟨2, vq, 0⟩ [], zq, false, none, 0, rfl, .txt (by omega) (by omega) h3_ h4_ h5_ (by first | exact c3p.symm | exact (of_not_ne c3p).symm) h6_, (H89.oNil fNd 24).pm (by repeat (first | exact pm_refl _ | exact Pm.nil _ | constructor | refine pm_skip ?_))⟩
        · omega)
     | (have q_ := c1p
        exact ⟨_, resc rfl rfl (run_loadVarN agg24 rfl (H89.ats (by repeat constructor))), nd0, (a + 1), false, none, 0, rfl, .dash (by omega) (by omega), (H89.oNil fNd 24).pm (by repeat (first | exact pm_refl _ | exact Pm.nil _ | constructor | refine pm_skip ?_))⟩)
     | exact ⟨_, resc rfl rfl (run_loadVarN agg24 rfl (H89.ats (by repeat constructor))), nd0, a, true, none, 0, rfl, .off (by omega), (H89.oNil fNd 24).pm (by repeat (first | exact pm_refl _ | exact Pm.nil _ | constructor | refine pm_skip ?_))⟩
  have c6p := of_nd_f c6
  refine wc_skip ?_
  refine wc_seq ?_
  refine wcR ?_
  refine wA ?_
  refine wl_nil ?_
  refine wc_block ?_
  refine wc_loop (σ := Bool × List Nd × Nat × Option Addr × Nat × Bool) (fun q => [(0, .pointer (some ⟨br, 0, none⟩)), (2, .pointer (some ⟨b2, 0, none⟩)), (9, .int .i64 a), (10, .pointer (some ⟨b10, 0, none⟩)), (11, .string (sepS q.1))]) (fun q W => ((Cl s a (s.extract a z) q.1 q.2.1 q.2.2.1 q.2.2.2.2.2) ∧ (a < q.2.2.1 ∧ q.2.2.1 ≤ s.size) ∧ q.2.1.length ≤ q.2.2.1) ∧ Holds w0 (Blk b10 24 [.int .i64 3, .string (s.extract a z), .int .i64 0, .slice q.2.2.2.1 q.2.1.length q.2.2.2.2.1] :: ORow fNd 24 (.slice q.2.2.2.1 q.2.1.length q.2.2.2.2.1) q.2.1 :: Blk br 96 [.string s, .int .i64 q.2.2.1, .bool q.2.2.2.2.2] :: Blk b2 24 [.int .i64 0, .string ⟨#[]⟩, .int .i64 0, .slice none 0 0] :: L) W) (fun q => s.size - q.2.2.1) (true, [], z, none, 0, false) (sc rfl (sc rfl (sc rfl (sc rfl (sc rfl (sn _)))))) ⟨⟨⟨fun _ ks' z' b' hr => .kids hW (by omega) (by omega) hr, fun h => (by cases h)⟩, ⟨by dsimp only; omega, by dsimp only; omega⟩, Nat.zero_le _⟩, (Hd.oNil fNd 24).pm (by repeat (first | exact pm_refl _ | exact Pm.nil _ | constructor | refine pm_skip ?_))⟩ ?_
  rintro ⟨f, ks, z1, A1, c1_, bd⟩ W1 ⟨⟨hcl, ⟨hz3, hz4⟩, hkl⟩, H⟩
  dsimp only at hcl hz3 hz4 hkl H ⊢
  have hsl := sepL_len f
  have hss := sepS_size f
  refine wc_seq ?_
  refine wcR ?_
  refine wM ?_
  refine wV (v_nil rfl) ?_
  refine wV (v_fb (o2 := 2) fa96_2 rfl rfl) ?_
  refine wV (v_load one4 rfl (H.at (by repeat constructor) rfl)) ?_
  refine wV (v_not rfl) ?_
  refine wl_nil ?_
  refine wc_cond rfl (fun c7 => ?_) (fun c7 => ?_)
  rotate_left
  ·have c7p := of_n_f c7
   obtain rfl : bd = true := of_n_f c7
   refine wc_exit ?_
   refine wcR ?_
   refine wV (v_loadN agg24 rfl rfl (H.ats (by repeat constructor))) ?_
   refine wl_store (vs := [_, _, _, _]) H (by repeat constructor) sz24 rfl rfl rfl rfl rfl (by (repeat constructor)) ?_
   intro w117 H118 hw117
   refine wl_nil ?_
   refine wc_ret ?_
   first
     | (have q_ := c10p
        exact ⟨_, resc rfl rfl (run_loadVarN agg24 rfl (H118.ats (by repeat constructor))), .mk ⟨3, (s.extract a z), 0⟩ (ks ++ [tk_]), z2 + 1, false, A239, c239, rfl, hcl.last hat hRk (by omega) (by omega), H118.pm (by repeat (first | exact pm_refl _ | exact Pm.nil _ | constructor | refine pm_skip ?_))⟩)
     | (have q_ := c8p
        exact ⟨_, resc rfl rfl (run_loadVarN agg24 rfl (H118.ats (by repeat constructor))), .mk ⟨3, (s.extract a z), 0⟩ ks, z1 + i, true, A1, c1_, rfl, hcl.nosep (by omega) (by omega) (fun h_ => by have h1_ := (h_.bya (k := i) (by omega)); omega), H118.pm (by repeat (first | exact pm_refl _ | exact Pm.nil _ | constructor | refine pm_skip ?_))⟩)
     | (have q_ := hcl
        exact ⟨_, resc rfl rfl (run_loadVarN agg24 rfl (H118.ats (by repeat constructor))), .mk ⟨3, (s.extract a z), 0⟩ ks, z1, true, A1, c1_, rfl, hcl.2 rfl, H118.pm (by repeat (first | exact pm_refl _ | exact Pm.nil _ | constructor | refine pm_skip ?_))⟩)
     | (have q_ := hW
        exact ⟨_, resc rfl rfl (run_loadVarN agg24 rfl (H118.ats (by repeat constructor))), .mk ⟨3, (s.extract a z), 0⟩ [], z, false, none, 0, rfl, .leaf hW (by omega), (H118.oNil fNd 24).pm (by repeat (first | exact pm_refl _ | exact Pm.nil _ | constructor | refine pm_skip ?_))⟩)
     | (have q_ := c5p
        obtain rfl : z = a := by omega
        exact ⟨_, resc rfl rfl (run_loadVarN agg24 rfl (H118.ats (by repeat constructor))), nd0, z, true, none, 0, rfl, .nwd (by omega) (by omega) (by omega) (hmx (by omega) (by omega)), (H118.oNil fNd 24).pm (by repeat (first | exact pm_refl _ | exact Pm.nil _ | constructor | refine pm_skip ?_))⟩)
     | (have q_ := hQd
        exact ⟨_, resc rfl rfl (run_loadVarN agg24 rfl (H118.ats (by repeat constructor))), nd0, a, true, none, 0, rfl, .ntx (by omega) (by omega) (qd_no hQd (by first | exact .inl (by omega) | exact .inr c3p)), (H118.oNil fNd 24).pm (by repeat (first | exact pm_refl _ | exact Pm.nil _ | constructor | refine pm_skip ?_))⟩)
     | (have q_ := hQd
        rcases hQd with ⟨h1_, h2_, h3_, h4_, h5_, h6_⟩ | h_
        · exact ⟨_, resc rfl rfl (run_loadVarN agg24 rfl (H118.ats (by repeat constructor))), .mk ⟨2, vq, 0⟩ [], zq, false, none, 0, rfl, .txt (by omega) (by omega) h3_ h4_ h5_ (by first | exact c3p.symm | exact (of_not_ne c3p).symm) h6_, (H118.oNil fNd 24).pm (by repeat (first | exact pm_refl _ | exact Pm.nil _ | constructor | refine pm_skip ?_))⟩
        · omega)
     | (have q_ := c1p
        exact ⟨_, resc rfl rfl (run_loadVarN agg24 rfl (H118.ats (by repeat constructor))), nd0, (a + 1), false, none, 0, rfl, .dash (by omega) (by omega), (H118.oNil fNd 24).pm (by repeat (first | exact pm_refl _ | exact Pm.nil _ | constructor | refine pm_skip ?_))⟩)
     | exact ⟨_, resc rfl rfl (run_loadVarN agg24 rfl (H118.ats (by repeat constructor))), nd0, a, true, none, 0, rfl, .off (by omega), (H118.oNil fNd 24).pm (by repeat (first | exact pm_refl _ | exact Pm.nil _ | constructor | refine pm_skip ?_))⟩
  have c7p := of_n_t c7
  obtain rfl : bd = false := of_n_t c7
  refine wc_skip ?_
  refine wc_seq ?_
  refine wc_block ?_
  refine wc_seq ?_
  refine wcR ?_
  refine wA ?_
  refine wl_nil ?_
  refine wc_block ?_
  refine wc_loop (σ := Nat) (fun q => [(0, .pointer (some ⟨br, 0, none⟩)), (2, .pointer (some ⟨b2, 0, none⟩)), (9, .int .i64 a), (10, .pointer (some ⟨b10, 0, none⟩)), (11, .string (sepS f)), (12, .int .i64 q)]) (fun q W => (q ≤ (sepL f).length ∧ z1 + q ≤ s.size ∧ AtL s z1 ((sepL f).take q)) ∧ Holds w0 (Blk b10 24 [.int .i64 3, .string (s.extract a z), .int .i64 0, .slice A1 ks.length c1_] :: ORow fNd 24 (.slice A1 ks.length c1_) ks :: Blk br 96 [.string s, .int .i64 ((z1 + q : Nat) : Int), .bool false] :: Blk b2 24 [.int .i64 0, .string ⟨#[]⟩, .int .i64 0, .slice none 0 0] :: L) W) (fun q => (sepL f).length - q) 0 (sc rfl (sc rfl (sc rfl (sc rfl (sc rfl (sc rfl (sn _))))))) ⟨⟨Nat.zero_le _, hz4, AtL.nil⟩, H.pm (by repeat (first | exact pm_refl _ | exact Pm.nil _ | constructor | refine pm_skip ?_))⟩ ?_
  rintro i W2 ⟨⟨hi, hi2, hat⟩, H⟩
  have hsb := sep_by f i
  refine wc_seq ?_
  refine wcR ?_
  refine wM ?_
  refine wM ?_
  refine wV (v_lens Try.underlying9 rfl) ?_
  refine wV (v_lss rfl rfl) ?_
  refine wl_nil ?_
  refine wc_cond rfl (fun c8 => ?_) (fun c8 => ?_)
  ·have c8p := oT c8
   refine wc_skip ?_
   refine wc_seq ?_
   refine wc_block ?_
   refine wc_seq ?_
   refine wc_seq ?_
   refine wc_still mixed (by kernel_rfl) ?_
   have Hd := H.drew
   refine ws_v rfl rfl rfl (v_move rfl) ?_
   refine ws_v rfl rfl rfl (v_nil rfl) ?_
   refine ws_v rfl rfl rfl (v_fb (o2 := 1) fa96_1 rfl rfl) ?_
   refine ws_v rfl rfl rfl (v_load one3 rfl (Hd.at (by repeat constructor) rfl)) ?_
   refine ws_v rfl rfl rfl (v_move rfl) ?_
   refine ws_v rfl rfl rfl (v_nil rfl) ?_
   refine ws_v rfl rfl rfl (v_fb (o2 := 0) fa96_0 rfl rfl) ?_
   refine ws_v rfl rfl rfl (v_load one9 rfl (Hd.at (by repeat constructor) rfl)) ?_
   refine ws_v rfl rfl rfl (v_lens Try.underlying9 rfl) ?_
   refine ws_v rfl rfl rfl (v_geq rfl rfl) ?_
   refine ws_v rfl rfl rfl (v_move rfl) ?_
   refine ws_guard rfl rfl rfl (fun g208 => ?_) (fun g208 => ?_)
   rotate_left
   ·have g208p := oT g208
    refine ws_off rfl rfl g208 rfl ?_
    refine ws_off rfl rfl g208 rfl ?_
    refine ws_off rfl rfl g208 rfl ?_
    refine ws_off rfl rfl g208 rfl ?_
    refine ws_off rfl rfl g208 rfl ?_
    refine ws_off rfl rfl g208 rfl ?_
    refine ws_off rfl rfl g208 rfl ?_
    refine ws_off rfl rfl g208 rfl ?_
    refine ws_off rfl rfl g208 rfl ?_
    refine ws_off rfl rfl g208 rfl ?_
    refine ws_off rfl rfl g208 rfl ?_
    refine ws_off rfl rfl g208 rfl ?_
    refine ws_v rfl rfl rfl (v_pick_t rfl g208 rfl) ?_
    refine ws_nil ?_
    refine wc_cond_t rfl ?_
    refine wcR ?_
    refine wM ?_
    refine wV (v_nil rfl) ?_
    refine wV (v_fb (o2 := 2) fa96_2 rfl rfl) ?_
    refine wl_store (vs := [_]) Hd (by repeat constructor) sz4 rfl rfl rfl rfl rfl (by (repeat constructor)) ?_
    intro w98 H99 hw98
    refine wl_nil ?_
    refine wcR ?_
    refine wV (v_loadN agg24 rfl rfl (H99.ats (by repeat constructor))) ?_
    refine wl_store (vs := [_, _, _, _]) H99 (by repeat constructor) sz24 rfl rfl rfl rfl rfl (by (repeat constructor)) ?_
    intro w100 H101 hw100
    refine wl_nil ?_
    refine wc_ret ?_
    first
      | (have q_ := c10p
         exact ⟨_, resc rfl rfl (run_loadVarN agg24 rfl (H101.ats (by repeat constructor))), .mk ⟨3, (s.extract a z), 0⟩ (ks ++ [tk_]), z2 + 1, false, A239, c239, rfl, hcl.last hat hRk (by omega) (by omega), H101.pm (by repeat (first | exact pm_refl _ | exact Pm.nil _ | constructor | refine pm_skip ?_))⟩)
      | (have q_ := c8p
         exact ⟨_, resc rfl rfl (run_loadVarN agg24 rfl (H101.ats (by repeat constructor))), .mk ⟨3, (s.extract a z), 0⟩ ks, z1 + i, true, A1, c1_, rfl, hcl.nosep (by omega) (by omega) (fun h_ => by have h1_ := (h_.bya (k := i) (by omega)); omega), H101.pm (by repeat (first | exact pm_refl _ | exact Pm.nil _ | constructor | refine pm_skip ?_))⟩)
      | (have q_ := hcl
         exact ⟨_, resc rfl rfl (run_loadVarN agg24 rfl (H101.ats (by repeat constructor))), .mk ⟨3, (s.extract a z), 0⟩ ks, z1, true, A1, c1_, rfl, hcl.2 rfl, H101.pm (by repeat (first | exact pm_refl _ | exact Pm.nil _ | constructor | refine pm_skip ?_))⟩)
      | (have q_ := hW
         exact ⟨_, resc rfl rfl (run_loadVarN agg24 rfl (H101.ats (by repeat constructor))), .mk ⟨3, (s.extract a z), 0⟩ [], z, false, none, 0, rfl, .leaf hW (by omega), (H101.oNil fNd 24).pm (by repeat (first | exact pm_refl _ | exact Pm.nil _ | constructor | refine pm_skip ?_))⟩)
      | (have q_ := c5p
         obtain rfl : z = a := by omega
         exact ⟨_, resc rfl rfl (run_loadVarN agg24 rfl (H101.ats (by repeat constructor))), nd0, z, true, none, 0, rfl, .nwd (by omega) (by omega) (by omega) (hmx (by omega) (by omega)), (H101.oNil fNd 24).pm (by repeat (first | exact pm_refl _ | exact Pm.nil _ | constructor | refine pm_skip ?_))⟩)
      | (have q_ := hQd
         exact ⟨_, resc rfl rfl (run_loadVarN agg24 rfl (H101.ats (by repeat constructor))), nd0, a, true, none, 0, rfl, .ntx (by omega) (by omega) (qd_no hQd (by first | exact .inl (by omega) | exact .inr c3p)), (H101.oNil fNd 24).pm (by repeat (first | exact pm_refl _ | exact Pm.nil _ | constructor | refine pm_skip ?_))⟩)
      | (have q_ := hQd
         rcases hQd with ⟨h1_, h2_, h3_, h4_, h5_, h6_⟩ | h_
         · exact ⟨_, resc rfl rfl (run_loadVarN agg24 rfl (H101.ats (by repeat constructor))), .mk ⟨2, vq, 0⟩ [], zq, false, none, 0, rfl, .txt (by omega) (by omega) h3_ h4_ h5_ (by first | exact c3p.symm | exact (of_not_ne c3p).symm) h6_, (H101.oNil fNd 24).pm (by repeat (first | exact pm_refl _ | exact Pm.nil _ | constructor | refine pm_skip ?_))⟩
         · omega)
      | (have q_ := c1p
         exact ⟨_, resc rfl rfl (run_loadVarN agg24 rfl (H101.ats (by repeat constructor))), nd0, (a + 1), false, none, 0, rfl, .dash (by omega) (by omega), (H101.oNil fNd 24).pm (by repeat (first | exact pm_refl _ | exact Pm.nil _ | constructor | refine pm_skip ?_))⟩)
      | exact ⟨_, resc rfl rfl (run_loadVarN agg24 rfl (H101.ats (by repeat constructor))), nd0, a, true, none, 0, rfl, .off (by omega), (H101.oNil fNd 24).pm (by repeat (first | exact pm_refl _ | exact Pm.nil _ | constructor | refine pm_skip ?_))⟩
   have g208p := oF g208
   refine ws_v rfl rfl rfl (v_move rfl) ?_
   refine ws_on' rfl rfl g208 ?_
   refine ws_v rfl rfl rfl (v_nil rfl) ?_
   refine ws_on' rfl rfl g208 ?_
   refine ws_v rfl rfl rfl (v_fb (o2 := 0) fa96_0 rfl rfl) ?_
   refine ws_on' rfl rfl g208 ?_
   refine ws_v rfl rfl rfl (v_load one9 rfl (Hd.at (by repeat constructor) rfl)) ?_
   refine ws_on' rfl rfl g208 ?_
   refine ws_v rfl rfl rfl (v_move rfl) ?_
   refine ws_on' rfl rfl g208 ?_
   refine ws_v rfl rfl rfl (v_nil rfl) ?_
   refine ws_on' rfl rfl g208 ?_
   refine ws_v rfl rfl rfl (v_fb (o2 := 1) fa96_1 rfl rfl) ?_
   refine ws_on' rfl rfl g208 ?_
   refine ws_v rfl rfl rfl (v_load one3 rfl (Hd.at (by repeat constructor) rfl)) ?_
   refine ws_on' rfl rfl g208 ?_
   refine ws_v rfl rfl rfl (v_idxA (i := (z1 + i)) (s := s) Try.underlying9 rfl rfl (by omega)) ?_
   refine ws_on' rfl rfl g208 ?_
   refine ws_v rfl rfl rfl (v_move rfl) ?_
   refine ws_on' rfl rfl g208 ?_
   refine ws_v rfl rfl rfl (v_move rfl) ?_
   refine ws_on' rfl rfl g208 ?_
   refine ws_v rfl rfl rfl (v_idxA (i := i) (s := sepS f) Try.underlying9 rfl rfl (by omega)) ?_
   refine ws_on' rfl rfl g208 ?_
   refine ws_v rfl rfl rfl (v_neq rfl rfl) ?_
   refine ws_v rfl rfl rfl (v_pick_f rfl g208 rfl) ?_
   refine ws_nil ?_
   refine wc_cond rfl (fun c9 => ?_) (fun c9 => ?_)
   rotate_left
   ·have c9p := of_nd_f c9
    refine wc_skip ?_
    refine wc_region ?_
    refine wM ?_
    refine wV (v_nil rfl) ?_
    refine wV (v_fb (o2 := 1) fa96_1 rfl rfl) ?_
    refine wV (v_load one3 rfl (Hd.at (by repeat constructor) rfl)) ?_
    refine wV (v_addi rfl rfl (by omega)) ?_
    refine wV (v_nil rfl) ?_
    refine wV (v_fb (o2 := 1) fa96_1 rfl rfl) ?_
    refine wl_store (vs := [_]) Hd (by repeat constructor) sz3 rfl rfl rfl rfl rfl (by (repeat constructor)) ?_
    intro w96 H97 hw96
    refine wl_nil ?_
    refine wc_region ?_
    refine wM ?_
    refine wV (v_addi rfl rfl (by omega)) ?_
    refine wA ?_
    refine wl_nil ?_
    exact ⟨i + 1, (sc rfl (sc rfl (sc rfl (sc rfl (sc rfl (sc rfl (sn _))))))), ⟨⟨by omega, by omega, at_take hat (by omega) (by omega) (by omega)⟩, H97.pm (by repeat (first | exact pm_refl _ | exact Pm.nil _ | constructor | refine pm_skip ?_))⟩, by omega⟩
   have c9p := of_nd_t c9
   refine wcR ?_
   refine wM ?_
   refine wV (v_nil rfl) ?_
   refine wV (v_fb (o2 := 2) fa96_2 rfl rfl) ?_
   refine wl_store (vs := [_]) Hd (by repeat constructor) sz4 rfl rfl rfl rfl rfl (by (repeat constructor)) ?_
   intro w92 H93 hw92
   refine wl_nil ?_
   refine wcR ?_
   refine wV (v_loadN agg24 rfl rfl (H93.ats (by repeat constructor))) ?_
   refine wl_store (vs := [_, _, _, _]) H93 (by repeat constructor) sz24 rfl rfl rfl rfl rfl (by (repeat constructor)) ?_
   intro w94 H95 hw94
   refine wl_nil ?_
   refine wc_ret ?_
   first
     | (have q_ := c10p
        exact ⟨_, resc rfl rfl (run_loadVarN agg24 rfl (H95.ats (by repeat constructor))), .mk ⟨3, (s.extract a z), 0⟩ (ks ++ [tk_]), z2 + 1, false, A239, c239, rfl, hcl.last hat hRk (by omega) (by omega), H95.pm (by repeat (first | exact pm_refl _ | exact Pm.nil _ | constructor | refine pm_skip ?_))⟩)
     | (have q_ := c8p
        exact ⟨_, resc rfl rfl (run_loadVarN agg24 rfl (H95.ats (by repeat constructor))), .mk ⟨3, (s.extract a z), 0⟩ ks, z1 + i, true, A1, c1_, rfl, hcl.nosep (by omega) (by omega) (fun h_ => by have h1_ := (h_.bya (k := i) (by omega)); omega), H95.pm (by repeat (first | exact pm_refl _ | exact Pm.nil _ | constructor | refine pm_skip ?_))⟩)
     | (have q_ := hcl
        exact ⟨_, resc rfl rfl (run_loadVarN agg24 rfl (H95.ats (by repeat constructor))), .mk ⟨3, (s.extract a z), 0⟩ ks, z1, true, A1, c1_, rfl, hcl.2 rfl, H95.pm (by repeat (first | exact pm_refl _ | exact Pm.nil _ | constructor | refine pm_skip ?_))⟩)
     | (have q_ := hW
        exact ⟨_, resc rfl rfl (run_loadVarN agg24 rfl (H95.ats (by repeat constructor))), .mk ⟨3, (s.extract a z), 0⟩ [], z, false, none, 0, rfl, .leaf hW (by omega), (H95.oNil fNd 24).pm (by repeat (first | exact pm_refl _ | exact Pm.nil _ | constructor | refine pm_skip ?_))⟩)
     | (have q_ := c5p
        obtain rfl : z = a := by omega
        exact ⟨_, resc rfl rfl (run_loadVarN agg24 rfl (H95.ats (by repeat constructor))), nd0, z, true, none, 0, rfl, .nwd (by omega) (by omega) (by omega) (hmx (by omega) (by omega)), (H95.oNil fNd 24).pm (by repeat (first | exact pm_refl _ | exact Pm.nil _ | constructor | refine pm_skip ?_))⟩)
     | (have q_ := hQd
        exact ⟨_, resc rfl rfl (run_loadVarN agg24 rfl (H95.ats (by repeat constructor))), nd0, a, true, none, 0, rfl, .ntx (by omega) (by omega) (qd_no hQd (by first | exact .inl (by omega) | exact .inr c3p)), (H95.oNil fNd 24).pm (by repeat (first | exact pm_refl _ | exact Pm.nil _ | constructor | refine pm_skip ?_))⟩)
     | (have q_ := hQd
        rcases hQd with ⟨h1_, h2_, h3_, h4_, h5_, h6_⟩ | h_
        · exact ⟨_, resc rfl rfl (run_loadVarN agg24 rfl (H95.ats (by repeat constructor))), .mk ⟨2, vq, 0⟩ [], zq, false, none, 0, rfl, .txt (by omega) (by omega) h3_ h4_ h5_ (by first | exact c3p.symm | exact (of_not_ne c3p).symm) h6_, (H95.oNil fNd 24).pm (by repeat (first | exact pm_refl _ | exact Pm.nil _ | constructor | refine pm_skip ?_))⟩
        · omega)
     | (have q_ := c1p
        exact ⟨_, resc rfl rfl (run_loadVarN agg24 rfl (H95.ats (by repeat constructor))), nd0, (a + 1), false, none, 0, rfl, .dash (by omega) (by omega), (H95.oNil fNd 24).pm (by repeat (first | exact pm_refl _ | exact Pm.nil _ | constructor | refine pm_skip ?_))⟩)
     | exact ⟨_, resc rfl rfl (run_loadVarN agg24 rfl (H95.ats (by repeat constructor))), nd0, a, true, none, 0, rfl, .off (by omega), (H95.oNil fNd 24).pm (by repeat (first | exact pm_refl _ | exact Pm.nil _ | constructor | refine pm_skip ?_))⟩
  have c8p := oF c8
  obtain rfl : i = (sepL f).length := by omega
  rw [List.take_length] at hat
  refine wc_exit ?_
  refine wc_seq ?_
  refine wc_tree [0, 1, 2] (fun W => Holds w0 (Blk b10 24 [.int .i64 3, .string (s.extract a z), .int .i64 0, .slice A1 ks.length c1_] :: ORow fNd 24 (.slice A1 ks.length c1_) ks :: Blk b2 24 [.int .i64 0, .string ⟨#[]⟩, .int .i64 0, .slice none 0 0] :: L) W) mixed ?_
  have Hd := H.drew
  have HSd : Holds w0 (Blk b10 24 [.int .i64 3, .string (s.extract a z), .int .i64 0, .slice A1 ks.length c1_] :: ORow fNd 24 (.slice A1 ks.length c1_) ks :: Blk b2 24 [.int .i64 0, .string ⟨#[]⟩, .int .i64 0, .slice none 0 0] :: L) _ := Hd.pm (by repeat (first | exact pm_refl _ | exact Pm.nil _ | constructor | refine pm_skip ?_))
  refine wjV (k := 0) rfl HSd (fun W HW => v_fb (o2 := 3) fa24_3 rfl rfl) ?_
  refine wjV (k := 1) rfl HSd (fun W HW => v_load one22 rfl (HW.at (by repeat constructor) rfl)) ?_
  refine wjV (k := 2) rfl HSd (fun W HW => v_move rfl) ?_
  refine wj_t (k := 3) rfl (by kernel_rfl) ?_
  refine wl_call en33 rfl rfl (ih (z1 + (sepL f).length) (by omega) (by omega) w0 _ _ br (Hd.turn (A := Blk br 96 [.string s, .int .i64 (z1 + (sepL f).length : Nat), .bool false]) (by repeat constructor))) ?_
  rintro _ w102 ⟨tk_, z2, bd2, Ak, ck, rfl, hRk, Hc⟩
  have hrk := hRk.rng (by omega)
  have HS103 : Holds w0 (Blk b10 24 [.int .i64 3, .string (s.extract a z), .int .i64 0, .slice A1 ks.length c1_] :: ORow fNd 24 (.slice A1 ks.length c1_) ks :: Blk b2 24 [.int .i64 0, .string ⟨#[]⟩, .int .i64 0, .slice none 0 0] :: L) _ := Hc.pm (by repeat (first | exact pm_refl _ | exact Pm.nil _ | constructor | refine pm_skip ?_))
  refine wl_nil (tn ⟨fun _ => HS103, ?_⟩)
  refine wj_t (k := 4) rfl (by kernel_rfl) ?_
  refine wl_slit (v := .agg #[.int .i64 0, .string ⟨#[]⟩, .int .i64 0, .slice none 0 0]) (z := [.int .i64 0, .string ⟨#[]⟩, .int .i64 0, .slice none 0 0]) (cs := [.int .i64 tk_.x.kind, .string tk_.x.name, .int .i64 tk_.x.tok, .slice Ak tk_.kids.length ck]) (sz := 4) Hc rfl Try.underlying22 sz24 zv24 (by decide) (by decide) (by kernel_rfl) rfl (by repeat constructor) ?_
  intro b238 w104 hb238 H104 hs104
  have HS105 : Holds w0 (Blk b10 24 [.int .i64 3, .string (s.extract a z), .int .i64 0, .slice A1 ks.length c1_] :: ORow fNd 24 (.slice A1 ks.length c1_) ks :: Blk b2 24 [.int .i64 0, .string ⟨#[]⟩, .int .i64 0, .slice none 0 0] :: L) _ := H104.pm (by repeat (first | exact pm_refl _ | exact Pm.nil _ | constructor | refine pm_skip ?_))
  refine wl_nil (tn ⟨fun _ => HS105, ?_⟩)
  refine wj_t (k := 5) rfl (by kernel_rfl) ?_
  refine wl_appO (f := fNd) (t' := tk_) (u := .slice Ak tk_.kids.length ck) H104 (by repeat constructor) (by repeat constructor) (H104.ats (by repeat constructor)) rfl Try.underlying22 info24 rfl rfl rfl (by omega) (by decide) ?_
  intro A239 c239 w106 H106 hs106
  refine wl_nil (tn ⟨fun hlt => absurd hlt (by rw [show allH _ _ _ = true by kernel_rfl]; simp), ?_⟩)
  refine wj_t (k := 6) rfl (by kernel_rfl) ?_
  refine wV (v_fb (o2 := 3) fa24_3 rfl rfl) ?_
  refine wl_nil (tn ⟨fun hlt => absurd hlt (by rw [show allH _ _ _ = true by kernel_rfl]; simp), ?_⟩)
  refine wj_t (k := 7) rfl (by kernel_rfl) ?_
  refine wl_store (vs := [_]) H106 (by repeat constructor) sz22 rfl rfl rfl rfl rfl (by (repeat constructor)) ?_
  intro w109 H110 hw109
  refine wl_nil (tn ⟨fun hlt => absurd hlt (by rw [show allH _ _ _ = true by kernel_rfl]; simp), ?_⟩)
  refine wj_done (by kernel_rfl) ?_
  refine wc_seq ?_
  refine wc_still mixed (by kernel_rfl) ?_
  have Hd := H110.drew
  refine ws_v rfl rfl rfl (v_move rfl) ?_
  refine ws_v rfl rfl rfl (v_nil rfl) ?_
  refine ws_v rfl rfl rfl (v_fb (o2 := 2) fa96_2 rfl rfl) ?_
  refine ws_v rfl rfl rfl (v_load one4 rfl (Hd.at (by repeat constructor) rfl)) ?_
  refine ws_v rfl rfl rfl (v_not rfl) ?_
  refine ws_v rfl rfl rfl (v_move rfl) ?_
  refine ws_guard rfl rfl rfl (fun g246 => ?_) (fun g246 => ?_)
  rotate_left
  ·have g246p := of_n_f g246
   obtain rfl : bd2 = true := of_n_f g246
   refine ws_off rfl rfl g246 rfl ?_
   refine ws_off rfl rfl g246 rfl ?_
   refine ws_off rfl rfl g246 rfl ?_
   refine ws_off rfl rfl g246 rfl ?_
   refine ws_off rfl rfl g246 rfl ?_
   refine ws_off rfl rfl g246 rfl ?_
   refine ws_off rfl rfl g246 rfl ?_
   refine ws_off rfl rfl g246 rfl ?_
   refine ws_off rfl rfl g246 rfl ?_
   refine ws_v rfl rfl rfl (v_pick_f rfl g246 rfl) ?_
   refine ws_v rfl rfl rfl (v_move rfl) ?_
   refine ws_off rfl rfl rfl rfl ?_
   refine ws_off rfl rfl rfl rfl ?_
   refine ws_off rfl rfl rfl rfl ?_
   refine ws_off rfl rfl rfl rfl ?_
   refine ws_off rfl rfl rfl rfl ?_
   refine ws_off rfl rfl rfl rfl ?_
   refine ws_off rfl rfl rfl rfl ?_
   refine ws_off rfl rfl rfl rfl ?_
   refine ws_off rfl rfl rfl rfl ?_
   refine ws_off rfl rfl rfl rfl ?_
   refine ws_v rfl rfl rfl (v_pick_f rfl rfl rfl) ?_
   refine ws_nil ?_
   refine wc_cond_f rfl ?_
   refine wc_skip ?_
   refine wc_region ?_
   refine wA ?_
   refine wl_nil ?_
   first
     | exact ⟨(false, ks ++ [tk_], z2, A239, c239, true), (sc rfl (sc rfl (sc rfl (sc rfl (sc rfl (sn _)))))), ⟨⟨hcl.bad hat hRk, ⟨by dsimp only; omega, by dsimp only; omega⟩, by (dsimp only; rw [List.length_append, List.length_singleton]; omega)⟩, Hd.pm (by repeat (first | exact pm_refl _ | exact Pm.nil _ | constructor | refine pm_skip ?_))⟩, by dsimp only; omega⟩
     | exact ⟨(false, ks ++ [tk_], z2, A239, c239, false), (sc rfl (sc rfl (sc rfl (sc rfl (sc rfl (sn _)))))), ⟨⟨hcl.more (z2 := z2) hat hRk (by omega), ⟨by dsimp only; omega, by dsimp only; omega⟩, by (dsimp only; rw [List.length_append, List.length_singleton]; omega)⟩, Hd.pm (by repeat (first | exact pm_refl _ | exact Pm.nil _ | constructor | refine pm_skip ?_))⟩, by dsimp only; omega⟩
  have g246p := of_n_t g246
  obtain rfl : bd2 = false := of_n_t g246
  refine ws_v rfl rfl rfl (v_move rfl) ?_
  refine ws_on' rfl rfl g246 ?_
  refine ws_v rfl rfl rfl (v_nil rfl) ?_
  refine ws_on' rfl rfl g246 ?_
  refine ws_v rfl rfl rfl (v_fb (o2 := 1) fa96_1 rfl rfl) ?_
  refine ws_on' rfl rfl g246 ?_
  refine ws_v rfl rfl rfl (v_load one3 rfl (Hd.at (by repeat constructor) rfl)) ?_
  refine ws_on' rfl rfl g246 ?_
  refine ws_v rfl rfl rfl (v_move rfl) ?_
  refine ws_on' rfl rfl g246 ?_
  refine ws_v rfl rfl rfl (v_nil rfl) ?_
  refine ws_on' rfl rfl g246 ?_
  refine ws_v rfl rfl rfl (v_fb (o2 := 0) fa96_0 rfl rfl) ?_
  refine ws_on' rfl rfl g246 ?_
  refine ws_v rfl rfl rfl (v_load one9 rfl (Hd.at (by repeat constructor) rfl)) ?_
  refine ws_on' rfl rfl g246 ?_
  refine ws_v rfl rfl rfl (v_lens Try.underlying9 rfl) ?_
  refine ws_on' rfl rfl g246 ?_
  refine ws_v rfl rfl rfl (v_lss rfl rfl) ?_
  refine ws_v rfl rfl rfl (v_pick_t rfl g246 rfl) ?_
  refine ws_v rfl rfl rfl (v_move rfl) ?_
  refine ws_guard rfl rfl rfl (fun g258 => ?_) (fun g258 => ?_)
  rotate_left
  ·have g258p := oF g258
   refine ws_off rfl rfl g258 rfl ?_
   refine ws_off rfl rfl g258 rfl ?_
   refine ws_off rfl rfl g258 rfl ?_
   refine ws_off rfl rfl g258 rfl ?_
   refine ws_off rfl rfl g258 rfl ?_
   refine ws_off rfl rfl g258 rfl ?_
   refine ws_off rfl rfl g258 rfl ?_
   refine ws_off rfl rfl g258 rfl ?_
   refine ws_off rfl rfl g258 rfl ?_
   refine ws_v rfl rfl rfl (v_pick_f rfl g258 rfl) ?_
   refine ws_nil ?_
   refine wc_cond_f rfl ?_
   refine wc_skip ?_
   refine wc_region ?_
   refine wA ?_
   refine wl_nil ?_
   first
     | exact ⟨(false, ks ++ [tk_], z2, A239, c239, true), (sc rfl (sc rfl (sc rfl (sc rfl (sc rfl (sn _)))))), ⟨⟨hcl.bad hat hRk, ⟨by dsimp only; omega, by dsimp only; omega⟩, by (dsimp only; rw [List.length_append, List.length_singleton]; omega)⟩, Hd.pm (by repeat (first | exact pm_refl _ | exact Pm.nil _ | constructor | refine pm_skip ?_))⟩, by dsimp only; omega⟩
     | exact ⟨(false, ks ++ [tk_], z2, A239, c239, false), (sc rfl (sc rfl (sc rfl (sc rfl (sc rfl (sn _)))))), ⟨⟨hcl.more (z2 := z2) hat hRk (by omega), ⟨by dsimp only; omega, by dsimp only; omega⟩, by (dsimp only; rw [List.length_append, List.length_singleton]; omega)⟩, Hd.pm (by repeat (first | exact pm_refl _ | exact Pm.nil _ | constructor | refine pm_skip ?_))⟩, by dsimp only; omega⟩
  have g258p := oT g258
  refine ws_v rfl rfl rfl (v_move rfl) ?_
  refine ws_on' rfl rfl g258 ?_
  refine ws_v rfl rfl rfl (v_nil rfl) ?_
  refine ws_on' rfl rfl g258 ?_
  refine ws_v rfl rfl rfl (v_fb (o2 := 0) fa96_0 rfl rfl) ?_
  refine ws_on' rfl rfl g258 ?_
  refine ws_v rfl rfl rfl (v_load one9 rfl (Hd.at (by repeat constructor) rfl)) ?_
  refine ws_on' rfl rfl g258 ?_
  refine ws_v rfl rfl rfl (v_move rfl) ?_
  refine ws_on' rfl rfl g258 ?_
  refine ws_v rfl rfl rfl (v_nil rfl) ?_
  refine ws_on' rfl rfl g258 ?_
  refine ws_v rfl rfl rfl (v_fb (o2 := 1) fa96_1 rfl rfl) ?_
  refine ws_on' rfl rfl g258 ?_
  refine ws_v rfl rfl rfl (v_load one3 rfl (Hd.at (by repeat constructor) rfl)) ?_
  refine ws_on' rfl rfl g258 ?_
  refine ws_v rfl rfl rfl (v_idxA (i := z2) (s := s) Try.underlying9 rfl rfl (by omega)) ?_
  refine ws_on' rfl rfl g258 ?_
  refine ws_v rfl rfl rfl (v_eql rfl rfl) ?_
  refine ws_v rfl rfl rfl (v_pick_t rfl g258 rfl) ?_
  refine ws_nil ?_
  refine wc_cond rfl (fun c10 => ?_) (fun c10 => ?_)
  rotate_left
  ·have c10p := oF c10
   refine wc_skip ?_
   refine wc_region ?_
   refine wA ?_
   refine wl_nil ?_
   first
     | exact ⟨(false, ks ++ [tk_], z2, A239, c239, true), (sc rfl (sc rfl (sc rfl (sc rfl (sc rfl (sn _)))))), ⟨⟨hcl.bad hat hRk, ⟨by dsimp only; omega, by dsimp only; omega⟩, by (dsimp only; rw [List.length_append, List.length_singleton]; omega)⟩, Hd.pm (by repeat (first | exact pm_refl _ | exact Pm.nil _ | constructor | refine pm_skip ?_))⟩, by dsimp only; omega⟩
     | exact ⟨(false, ks ++ [tk_], z2, A239, c239, false), (sc rfl (sc rfl (sc rfl (sc rfl (sc rfl (sn _)))))), ⟨⟨hcl.more (z2 := z2) hat hRk (by omega), ⟨by dsimp only; omega, by dsimp only; omega⟩, by (dsimp only; rw [List.length_append, List.length_singleton]; omega)⟩, Hd.pm (by repeat (first | exact pm_refl _ | exact Pm.nil _ | constructor | refine pm_skip ?_))⟩, by dsimp only; omega⟩
  have c10p := oT c10
  refine wcR ?_
  refine wM ?_
  refine wV (v_nil rfl) ?_
  refine wV (v_fb (o2 := 1) fa96_1 rfl rfl) ?_
  refine wV (v_load one3 rfl (Hd.at (by repeat constructor) rfl)) ?_
  refine wV (v_addi rfl rfl (by omega)) ?_
  refine wV (v_nil rfl) ?_
  refine wV (v_fb (o2 := 1) fa96_1 rfl rfl) ?_
  refine wl_store (vs := [_]) Hd (by repeat constructor) sz3 rfl rfl rfl rfl rfl (by (repeat constructor)) ?_
  intro w113 H114 hw113
  refine wl_nil ?_
  refine wcR ?_
  refine wV (v_loadN agg24 rfl rfl (H114.ats (by repeat constructor))) ?_
  refine wl_store (vs := [_, _, _, _]) H114 (by repeat constructor) sz24 rfl rfl rfl rfl rfl (by (repeat constructor)) ?_
  intro w115 H116 hw115
  refine wl_nil ?_
  refine wc_ret ?_
  first
    | (have q_ := c10p
       exact ⟨_, resc rfl rfl (run_loadVarN agg24 rfl (H116.ats (by repeat constructor))), .mk ⟨3, (s.extract a z), 0⟩ (ks ++ [tk_]), z2 + 1, false, A239, c239, rfl, hcl.last hat hRk (by omega) (by omega), H116.pm (by repeat (first | exact pm_refl _ | exact Pm.nil _ | constructor | refine pm_skip ?_))⟩)
    | (have q_ := c8p
       exact ⟨_, resc rfl rfl (run_loadVarN agg24 rfl (H116.ats (by repeat constructor))), .mk ⟨3, (s.extract a z), 0⟩ ks, z1 + i, true, A1, c1_, rfl, hcl.nosep (by omega) (by omega) (fun h_ => by have h1_ := (h_.bya (k := i) (by omega)); omega), H116.pm (by repeat (first | exact pm_refl _ | exact Pm.nil _ | constructor | refine pm_skip ?_))⟩)
    | (have q_ := hcl
       exact ⟨_, resc rfl rfl (run_loadVarN agg24 rfl (H116.ats (by repeat constructor))), .mk ⟨3, (s.extract a z), 0⟩ ks, z1, true, A1, c1_, rfl, hcl.2 rfl, H116.pm (by repeat (first | exact pm_refl _ | exact Pm.nil _ | constructor | refine pm_skip ?_))⟩)
    | (have q_ := hW
       exact ⟨_, resc rfl rfl (run_loadVarN agg24 rfl (H116.ats (by repeat constructor))), .mk ⟨3, (s.extract a z), 0⟩ [], z, false, none, 0, rfl, .leaf hW (by omega), (H116.oNil fNd 24).pm (by repeat (first | exact pm_refl _ | exact Pm.nil _ | constructor | refine pm_skip ?_))⟩)
    | (have q_ := c5p
       obtain rfl : z = a := by omega
       exact ⟨_, resc rfl rfl (run_loadVarN agg24 rfl (H116.ats (by repeat constructor))), nd0, z, true, none, 0, rfl, .nwd (by omega) (by omega) (by omega) (hmx (by omega) (by omega)), (H116.oNil fNd 24).pm (by repeat (first | exact pm_refl _ | exact Pm.nil _ | constructor | refine pm_skip ?_))⟩)
    | (have q_ := hQd
       exact ⟨_, resc rfl rfl (run_loadVarN agg24 rfl (H116.ats (by repeat constructor))), nd0, a, true, none, 0, rfl, .ntx (by omega) (by omega) (qd_no hQd (by first | exact .inl (by omega) | exact .inr c3p)), (H116.oNil fNd 24).pm (by repeat (first | exact pm_refl _ | exact Pm.nil _ | constructor | refine pm_skip ?_))⟩)
    | (have q_ := hQd
       rcases hQd with ⟨h1_, h2_, h3_, h4_, h5_, h6_⟩ | h_
       · exact ⟨_, resc rfl rfl (run_loadVarN agg24 rfl (H116.ats (by repeat constructor))), .mk ⟨2, vq, 0⟩ [], zq, false, none, 0, rfl, .txt (by omega) (by omega) h3_ h4_ h5_ (by first | exact c3p.symm | exact (of_not_ne c3p).symm) h6_, (H116.oNil fNd 24).pm (by repeat (first | exact pm_refl _ | exact Pm.nil _ | constructor | refine pm_skip ?_))⟩
       · omega)
    | (have q_ := c1p
       exact ⟨_, resc rfl rfl (run_loadVarN agg24 rfl (H116.ats (by repeat constructor))), nd0, (a + 1), false, none, 0, rfl, .dash (by omega) (by omega), (H116.oNil fNd 24).pm (by repeat (first | exact pm_refl _ | exact Pm.nil _ | constructor | refine pm_skip ?_))⟩)
    | exact ⟨_, resc rfl rfl (run_loadVarN agg24 rfl (H116.ats (by repeat constructor))), nd0, a, true, none, 0, rfl, .off (by omega), (H116.oNil fNd 24).pm (by repeat (first | exact pm_refl _ | exact Pm.nil _ | constructor | refine pm_skip ?_))⟩

theorem node_calls {s : ByteArray} (hs : s.size ≤ 274877906944) : ∀ (n a : Nat), s.size - a ≤ n → a ≤ s.size → NodeOk s a := by
  intro n
  induction n with
  | zero => exact fun a h1 h2 w0 w L br HH => node_step hs h2 HH fun a' h3 h4 => by omega
  | succ n ih => exact fun a h1 h2 w0 w L br HH => node_step hs h2 HH fun a' h3 h4 => ih a' (by omega) h4
end Go.Proofs.Ytgdemplcpcacaaa.NodeR
