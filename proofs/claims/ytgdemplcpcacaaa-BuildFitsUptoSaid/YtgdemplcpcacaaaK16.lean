/- If all actions fit their types, the value of a derivation has its rule's type. If all actions fit their types, the value of a derivation has its rule's type. How the arguments' types are read (seat 21). -/
import Derived.Test.YtgdemplcpcacaaaK03
import Derived.Test.YtgdemplcpcacaaaProg
import Derived.Test.YtgdemplcpcacaaaK13
import Derived.Test.YtgdemplcpcacaaaK11
import Derived.Test.YtgdemplcpcacaaaK12
import Derived.Test.YtgdemplcpcacaaaK15
set_option linter.unusedVariables false
set_option linter.unusedSimpArgs false
/-! If all actions fit their types, the value of a derivation has its rule's type. -/
namespace Go.Proofs.YtgdemplcpcacaaaFx
open Go Go.RowKit
theorem actV_small {ks : List Nd} (hk : ∀ t ∈ ks, t.All smallN) (n : Int) : ∀ a : Ac, a.All (nodeOk n) → a.cnt ≤ 1099511627776 → (actV ks a).All smallN := Tr.ind fun x kids ih hal hc => by
  have hcn := Tr.cnt_eq (.mk x kids)
  have hkl := Tr.cnts_len kids
  obtain ⟨hn, hks⟩ := (Tr.All_eq (.mk x kids)).1 hal
  have hn' : nodeOk n x kids.length := hn
  have hks' : Tr.Alls (nodeOk n) kids := hks
  have h0 : nd0.All smallN := by rw [nd0, Tr.All_eq]; exact ⟨⟨Nat.zero_le _, Nat.zero_le _⟩, by simp [Tr.Alls, Tr.kids]⟩
  have hcn' : (Tr.mk x kids).cnt = 1 + Tr.cnts kids := hcn
  unfold nodeOk at hn'
  rw [actV]
  split
  · rw [List.getD_eq_getElem?_getD]
    rcases Nat.lt_or_ge x.at_.toNat ks.length with h | h
    · rw [List.getElem?_eq_getElem h]; exact hk _ (List.getElem_mem h)
    · rw [List.getElem?_eq_none h]; exact h0
  · split
    · rw [Tr.All_eq]; exact ⟨⟨show x.name.size ≤ _ by omega, Nat.zero_le _⟩, by simp [Tr.Alls, Tr.kids]⟩
    · split
      · rw [Tr.All_eq, actVs_eq]
        refine ⟨⟨show x.name.size ≤ _ by omega, ?_⟩, (Tr.Alls_iff _).2 fun t ht => ?_⟩
        · show (kids.map (actV ks)).length ≤ 1099511627776
          rw [List.length_map]
          omega
        · obtain ⟨a, ha, rfl⟩ := List.mem_map.1 ht
          refine ih a ha ((Tr.Alls_iff _).1 hks' a ha) ?_
          obtain ⟨j, hj, rfl⟩ := List.mem_iff_getElem.1 ha
          have h1 := Tr.cnts_succ ac0 kids j hj
          have h2 := Tr.cnts_take kids (j + 1)
          have h3 : kids.getD j ac0 = kids[j] := by rw [List.getD_eq_getElem?_getD, List.getElem?_eq_getElem hj]; rfl
          rw [h3] at h1
          omega
      · exact h0
theorem valD_small {g : Pl} (hg : ActsOk g) : ∀ d : Dv, d.All (dvOk g) → (valD g d).All smallN := Tr.ind fun x kids ih h => by
  obtain ⟨h1, h2⟩ := (Tr.All_eq (.mk x kids)).1 h
  have h1' : dvOk g x kids.length := h1
  have h2' : Tr.Alls (dvOk g) kids := h2
  rcases Int.lt_or_le x.prod 0 with hp | hp
  · rw [valD_leaf (d := .mk x kids) hp, Tr.All_eq]
    exact ⟨⟨Nat.zero_le _, Nat.zero_le _⟩, by simp [Tr.Alls, Tr.kids]⟩
  · rw [valD_node (d := .mk x kids) (show ¬ x.prod < 0 by omega)]
    have h3 : (0 ≤ x.prod ∧ x.prod < g.prods.length) := h1'.elim (fun h => by omega) (fun h => h.1)
    have h4 := hg x.prod.toNat (by omega)
    refine actV_small (fun t ht => ?_) _ _ h4.1 (by have := h4.2; show (g.prods.getD x.prod.toNat pr0).act.cnt ≤ _; omega)
    obtain ⟨d, hd, rfl⟩ := List.mem_map.1 ht
    exact ih d hd ((Tr.Alls_iff _).1 h2' d hd)
theorem valR_small {g : Pl} {d : Dv} {row : List Int} : (valR g d row).All smallN := by
  unfold valR
  split
  · rename_i h
    have hd : DrvOk g d row := Classical.byContradiction fun h_ => by
      rcases Classical.em (GOk g) with hG | hG
      · rw [(valE_none hG h_).1] at h; exact absurd h (by decide)
      · rw [(valE_plain hG).1] at h; exact absurd h (by decide)
    exact valD_small hd.1.acts d hd.dv
  · exact (Tr.All_eq _).2 ⟨⟨Nat.zero_le _, Nat.zero_le _⟩, (Tr.Alls_iff _).2 fun t ht => absurd ht (List.not_mem_nil)⟩
section
variable {P : List (ByteArray × Ct)} {sy : List ByteArray} {ks : List Nd}
theorem typs_zero : ∀ (ts : List Ac) (fs : List ByteArray), typs P sy ts fs = 0 → ∀ i, i < ts.length → typ1 P sy (ts.getD i ac0) (fs.getD i s0) = 0
  | [], _, _, i, hi => by simp at hi
  | a :: r, fs, h, i, hi => by
    rw [typs_cons] at h
    split at h
    · rename_i h1
      split at h
      · rename_i h2
        cases i with
        | zero =>
          show typ1 P sy a (fs.getD 0 s0) = 0
          rw [typ1, if_pos h1, if_pos h2]
        | succ i =>
          have := typs_zero r fs.tail h i (by simpa using hi)
          have e : fs.tail.getD i s0 = fs.getD (i + 1) s0 := by cases fs <;> rfl
          rw [e] at this
          exact this
      · cases h
    · rename_i h1
      exact absurd h h1
theorem typ1_zero {a : Ac} {f : ByteArray} (h : typ1 P sy a f = 0) : (typ P sy a).2 = 0 ∧ (typ P sy a).1 = f := by
  unfold typ1 at h
  split at h
  · rename_i h1
    split at h
    · rename_i h2
      exact ⟨h1, h2⟩
    · cases h
  · rename_i h1
    exact absurd h h1
theorem act_fit (hl : ks.length = sy.length) (hf : ∀ i, i < sy.length → fitN P (ks.getD i nd0) (sy.getD i s0)) : ∀ a : Ac, a.All (nodeOk sy.length) → (typ P sy a).2 = 0 → fitN P (actV ks a) (typ P sy a).1 := Tr.ind fun x kids ih hal h => by
  obtain ⟨hn, hks⟩ := (Tr.All_eq (.mk x kids)).1 hal
  have hn' : nodeOk sy.length x kids.length := hn
  have hks' : Tr.Alls (nodeOk sy.length) kids := hks
  unfold nodeOk at hn'
  by_cases h1 : x.kind = 1
  · have h1' : (Tr.mk x kids).x.kind = 1 := h1
    rw [typ_pick h1'] at h ⊢
    rw [actV_pick h1']
    split at h
    · cases h
    · rename_i h2
      rw [if_neg h2]
      exact hf _ (show x.at_.toNat < sy.length by omega)
  · by_cases h3 : x.kind = 3
    · have h3' : (Tr.mk x kids).x.kind = 3 := h3
      rw [typ_text h3', actV_text h3']
      exact (fit2 rfl).2 ⟨rfl, rfl, rfl⟩
    · by_cases h2 : x.kind = 2
      · have h2' : (Tr.mk x kids).x.kind = 2 := h2
        cases hp : fnd P x.name with
        | none => rw [typ_node_no h2' hp] at h; cases h
        | some p =>
          rw [typ_node h2' hp] at h ⊢
          split at h
          · rename_i h4
            have h4' : p.2.fields.length = kids.length := h4
            rw [if_pos h4]
            split at h
            · rename_i h5
              rw [if_pos h5, actV_node h2']
              refine (fit3 rfl).2 ⟨p, hp, rfl, rfl, by show p.2.fields.length = (kids.map (actV ks)).length; rw [List.length_map]; exact h4', (fitNs_iff _ _).2 fun i hi => ?_⟩
              have hi' : i < kids.length := by simpa [Tr.kids] using hi
              obtain ⟨k1, k2⟩ := typ1_zero (typs_zero kids _ h5 i hi')
              have k3 := ih (kids.getD i ac0) (getD_mem hi') (Tr.Alls_at ac0 hi' hks') k1
              rw [k2] at k3
              show fitN P ((kids.map (actV ks)).getD i nd0) _
              rw [getD_map (actV ks) ac0 nd0 hi']
              exact k3
            · rename_i h5
              exact absurd h h5
          · cases h
      · have h1' : (Tr.mk x kids).x.kind ≠ 1 := h1
        have h2' : (Tr.mk x kids).x.kind ≠ 2 := h2
        have h3' : (Tr.mk x kids).x.kind ≠ 3 := h3
        rw [typ_none h1' h2' h3', actV_none h1' h2' h3']
        exact (fit0 rfl).2 ⟨rfl, rfl, rfl, rfl⟩
end
section
variable {g : Pl} {l : List Dt} {types : List ByteArray} {row : List Int}
theorem shps_each : ∀ (ts : List Dv) (xs : List Int) (at_ a : Nat), shps g row ts xs at_ = some a → ∀ i, i < ts.length → ∃ b c, shp g row (ts.getD i dv0) (xs.getD i 0) b = some c
  | [], _, _, _, _, i, hi => by simp at hi
  | t :: r, xs, at_, a, h, i, hi => by
    rw [shps_cons] at h
    obtain ⟨c, h1, h2⟩ := Option.bind_eq_some_iff.1 h
    cases i with
    | zero => exact ⟨at_, c, by rw [← headD_get]; exact h1⟩
    | succ i =>
      obtain ⟨b', c', h3⟩ := shps_each r xs.tail c a h2 i (by simpa using hi)
      have e : xs.tail.getD i 0 = xs.getD (i + 1) 0 := by cases xs <;> rfl
      rw [e] at h3
      exact ⟨b', c', h3⟩
theorem drv_fit (hC : ChkOk g l types) : ∀ (d : Dv) (x : Int) (at_ a : Nat), shp g row d x at_ = some a → fitN (flat l) (valD g d) (symT g types x) := Tr.ind fun y kids ih x at_ a h => by
  rw [shp_eq] at h
  split at h
  · rename_i hx
    split at h
    · rename_i h1
      obtain ⟨⟨⟨e1, e2⟩, e3⟩, e4, e5⟩ := of_dec h1
      have e1' : y.prod = -1 := e1
      have e3' : y.tok = at_ := e3
      rw [valD_leaf (d := .mk y kids) (show y.prod < 0 by omega), symT, if_pos hx]
      exact (fit1 rfl).2 ⟨rfl, show 0 ≤ y.tok by omega, rfl, rfl⟩
    · cases h
  · rename_i hx
    split at h
    · rename_i h1
      obtain ⟨⟨⟨e1, e2⟩, e3⟩, e4, e5⟩ := of_dec h1
      have e1' : 0 ≤ y.prod := e1
      have e2' : y.prod < g.prods.length := e2
      have e4' : (g.kinds.length : Int) + (g.prods.getD y.prod.toNat pr0).left = x := e4
      have e5' : kids.length = (g.prods.getD y.prod.toNat pr0).right.length := e5
      have h' : shps g row kids (g.prods.getD y.prod.toNat pr0).right at_ = some a := h
      have hi : y.prod.toNat < g.prods.length := by omega
      obtain ⟨p1, p2⟩ := prodE_is.1 (hC.2.2.2.2 _ hi)
      rw [valD_node (d := .mk y kids) (show ¬ y.prod < 0 by omega), symT, if_neg hx, show (x - g.kinds.length).toNat = (g.prods.getD y.prod.toNat pr0).left.toNat by omega, ← p2]
      refine act_fit (ks := kids.map (valD g)) (by rw [List.length_map, List.length_map]; exact e5') (fun i hi2 => ?_) _ (by rw [List.length_map]; exact (hC.1.acts _ hi).1) p1
      rw [List.length_map] at hi2
      rw [getD_map (valD g) dv0 nd0 (by omega), getD_map (symT g types) 0 s0 hi2]
      obtain ⟨b', c', h3⟩ := shps_each kids _ _ _ h' i (by omega)
      exact ih _ (getD_mem (by omega)) _ _ _ h3
    · cases h
/-- The law. -/
theorem fits_law {d : Dv} (hC : ChkOk g l types) (h : valE g d row = 0) : TypedOk l (valR g d row) (types.getD g.start.toNat s0) := by
  have hd : DrvOk g d row := Classical.byContradiction fun h_ => by rw [(valE_none hC.1 h_).1] at h; exact absurd h (by decide)
  have hv : valR g d row = valD g d := by
    by_cases hc : (valD g d).cnt ≤ 65536
    · exact (valE_ok hd hc).2
    · rw [(valE_many hd hc).1] at h; exact absurd h (by decide)
  have h1 := drv_fit hC d _ _ _ hd.2.2
  have hs := hC.1.2.1.1
  rw [symT, if_neg (by omega), show ((g.kinds.length : Int) + g.start - g.kinds.length).toNat = g.start.toNat by omega] at h1
  exact ⟨hC.2.1, by rw [hv]; exact h1⟩
theorem valE_one {d : Dv} : valE g d row ≠ 1 := by
  unfold valE
  repeat' split
  all_goals decide
end
end Go.Proofs.YtgdemplcpcacaaaFx

/-! If all actions fit their types, the value of a derivation has its rule's type. -/
namespace Go.Proofs.Ytgdemplcpcacaaa.BFits
open Go Go.RowKit Go.Proofs.YtgdemplcpcacaaaFx Go.Proofs.Ytgdemplcpcacaaa.AliveB Go.Proofs.Ytgdemplcpcacaaa.PValue Go.Proofs.Ytgdemplcpcacaaa.PCheck Go.Proofs.Ytgdemplcpcacaaa.PTyped Go.Proofs.Ytgdemplcpcacaaa.RChk
theorem agg24 : Agg Try.prog 24 4 := agg_of Try.underlying24 (by kernel_rfl)
theorem agg44 : Agg Try.prog 44 5 := agg_of Try.underlying44 (by kernel_rfl)
theorem agg50 : Agg Try.prog 50 3 := agg_of Try.underlying50 (by kernel_rfl)
theorem en10 : Enters Try.prog 10 := enters Try.func10 (by kernel_rfl) rfl
theorem en16 : Enters Try.prog 16 := enters Try.func16 (by kernel_rfl) rfl
theorem en19 : Enters Try.prog 19 := enters Try.func19 (by kernel_rfl) rfl
theorem en20 : Enters Try.prog 20 := enters Try.func20 (by kernel_rfl) rfl
theorem en21 : Enters Try.prog 21 := enters Try.func21 (by kernel_rfl) rfl
theorem fa44_4 : FieldAt Try.prog 44 4 4 := field_at (sz := 0) Try.underlying44 rfl (by kernel_rfl) rfl
theorem fa47_0 : FieldAt Try.prog 47 0 0 := field_at (sz := 4) Try.underlying47 rfl (by kernel_rfl) rfl
theorem fa47_1 : FieldAt Try.prog 47 1 5 := field_at (sz := 0) Try.underlying47 rfl (by kernel_rfl) rfl
theorem fa47_2 : FieldAt Try.prog 47 2 6 := field_at (sz := 0) Try.underlying47 rfl (by kernel_rfl) rfl
theorem fa53_0 : FieldAt Try.prog 53 0 0 := field_at (sz := 2) Try.underlying53 rfl (by kernel_rfl) rfl
theorem fa53_1 : FieldAt Try.prog 53 1 3 := field_at (sz := 0) Try.underlying53 rfl (by kernel_rfl) rfl
theorem mixed : Try.prog.follows .mixedOrders = true := by kernel_rfl
theorem one3 : One Try.prog 3 := one_of Try.underlying3 rfl (by kernel_rfl)
theorem one40 : One Try.prog 40 := one_of Try.underlying40 rfl (by kernel_rfl)
theorem one45 : One Try.prog 45 := one_of Try.underlying45 rfl (by kernel_rfl)
theorem one51 : One Try.prog 51 := one_of Try.underlying51 rfl (by kernel_rfl)
theorem one9 : One Try.prog 9 := one_of Try.underlying9 rfl (by kernel_rfl)
theorem sz24 : ∀ W, (sizeOf 24).run Try.prog W = .ok 4 W := size_of (by kernel_rfl)
theorem sz9 : ∀ W, (sizeOf 9).run Try.prog W = .ok 1 W := size_of (by kernel_rfl)
theorem zv24 : ∀ W, (zeroValue 24).run Try.prog W = .ok (.agg #[.int .i64 0, .string ⟨#[]⟩, .int .i64 0, .slice none 0 0]) W := zero_of (by kernel_rfl)

set_option maxHeartbeats 3200000 in
set_option maxRecDepth 100000 in
theorem fitsB_calls {x : Gv} {a : GvA} {d : Dv} {row : List Int} {A B : Option Addr} {k c : Nat} {w : World} (hx : x.rd w a) (hk : x.ok a) (hd : Rd (kTr fDv) w B d.kids) (hr : Rd (kInt .i64) w A row) (hcn : d.cnt ≤ 1048576) (hrl : row.length ≤ 1048576) : Calls Try.prog 6 #[.agg #[.slice a.a.k x.g.kinds.length a.a.ck, .slice a.a.p x.g.precs.length a.a.cp, .slice a.a.r x.g.rules.length a.a.cr, .slice a.a.q x.g.prods.length a.a.cq, .int .i64 x.g.start, .slice a.l x.l.length a.cl, .slice a.t x.ty.length a.ct], .agg #[.int .i64 d.x.prod, .int .i64 d.x.tok, .slice B d.kids.length k, .slice A row.length c]] w fun e w' => ∃ v, e = .returned v ∧ v = .bool true ∧ Holds w [] w' := by
  have hty := hx.t
  have htl := hk.tl
  refine calls_of Try.func6 rfl Try.ntmps6 rfl ?_
  have H := Holds.start w
  refine wcR ?_
  refine wl_box (cs := [_, _, _, _, _, _, _]) H rfl rfl rfl ?_
  intro b2 w1 hb2 H2
  refine wl_box (cs := [_, _, _, _]) H2 rfl rfl rfl ?_
  intro b3 w3 hb3 H4
  refine wA ?_
  refine wl_nil ?_
  refine wc_seq ?_
  refine wcR ?_
  refine wl_call en10 rfl rfl (alive_calls) ?_
  rintro _ w5 ⟨rfl, Hc⟩
  have H6 := H4.call0 Hc
  refine wV (v_not rfl) ?_
  refine wl_nil ?_
  refine wc_cond_f rfl ?_
  refine wc_skip ?_
  refine wcR ?_
  refine wV (v_fb (o2 := 0) fa47_0 rfl rfl) ?_
  refine wV (v_loadN (cs := [_, _, _, _, _]) agg44 rfl rfl (H6.atsN (k := 5) (by repeat constructor) rfl)) ?_
  refine wV (v_fb (o2 := 5) fa47_1 rfl rfl) ?_
  refine wV (v_load one45 rfl (H6.at (by repeat constructor) rfl)) ?_
  refine wV (v_fb (o2 := 6) fa47_2 rfl rfl) ?_
  refine wV (v_load one40 rfl (H6.at (by repeat constructor) rfl)) ?_
  refine wl_call en19 rfl rfl (pcheck_calls hk.g (hx.g.below H6.old) hk.l (hx.l.below H6.old) (hx.t.below H6.old) (by omega) (fun s hs => by have := hk.ts s hs; omega)) ?_
  rintro _ w7 ⟨p1, e1, rfl, h1, h2, Hc⟩
  have H8 := H6.call0 Hc
  refine wM ?_
  refine wV (v_extract rfl rfl) ?_
  refine wV (v_extract rfl rfl) ?_
  refine wA ?_
  refine wA ?_
  refine wl_nil ?_
  refine wcR ?_
  refine wV (v_fb (o2 := 0) fa47_0 rfl rfl) ?_
  refine wV (v_loadN (cs := [_, _, _, _, _]) agg44 rfl rfl (H8.atsN (k := 5) (by repeat constructor) rfl)) ?_
  refine wV (v_fb (o2 := 0) fa53_0 rfl rfl) ?_
  refine wV (v_loadN (cs := [_, _, _]) agg50 rfl rfl (H8.atsN (k := 3) (by repeat constructor) rfl)) ?_
  refine wV (v_fb (o2 := 3) fa53_1 rfl rfl) ?_
  refine wV (v_load one51 rfl (H8.at (by repeat constructor) rfl)) ?_
  refine wl_call en16 rfl rfl (pvalue_calls hk.g (hx.g.below H8.old) (hd.below H8.old) (hr.below H8.old) (by omega) (by omega)) ?_
  rintro _ w9 ⟨Ap, cp, rfl, Hc⟩
  have H10 := H8.call Hc
  refine wM ?_
  refine wV (v_extract rfl rfl) ?_
  refine wV (v_extract rfl rfl) ?_
  refine wl_alloc (cs := [.int .i64 0, .string ⟨#[]⟩, .int .i64 0, .slice none 0 0]) H10 rfl zv24 rfl ?_
  intro b7 w11 hb7 H12
  refine wl_store (vs := [_, _, _, _]) H12 (by repeat constructor) sz24 rfl rfl rfl rfl rfl (by (repeat constructor)) ?_
  intro w13 H14 hw13
  refine wA ?_
  refine wl_nil ?_
  refine wcR ?_
  refine wV (v_fb (o2 := 0) fa47_0 rfl rfl) ?_
  refine wV (v_loadN (cs := [_, _, _, _, _]) agg44 rfl rfl (H14.atsN (k := 5) (by repeat constructor) rfl)) ?_
  refine wV (v_fb (o2 := 5) fa47_1 rfl rfl) ?_
  refine wV (v_load one45 rfl (H14.at (by repeat constructor) rfl)) ?_
  refine wV (v_fb (o2 := 6) fa47_2 rfl rfl) ?_
  refine wV (v_load one40 rfl (H14.at (by repeat constructor) rfl)) ?_
  refine wl_call en20 rfl rfl (rcheck_calls (hx.below H14.old) hk) ?_
  rintro _ w15 ⟨p2, q2, rfl, h3, Hc⟩
  have H16 := H14.call0 Hc
  refine wM ?_
  refine wV (v_extract rfl rfl) ?_
  refine wV (v_extract rfl rfl) ?_
  refine wA ?_
  refine wA ?_
  refine wl_nil ?_
  refine wc_seq ?_
  refine wcR ?_
  refine wM ?_
  refine wV (v_neq rfl rfl) ?_
  refine wM ?_
  refine wl_guard rfl rfl rfl (fun g45 => ?_) (fun g45 => ?_)
  rotate_left
  ·have g45p := of_nd_t g45
   refine wF g45 ?_
   refine wV (v_pick_t rfl g45 rfl) ?_
   refine wM ?_
   refine wF rfl ?_
   refine wF rfl ?_
   refine wV (v_pick_t rfl rfl rfl) ?_
   refine wl_nil ?_
   refine wc_cond_t rfl ?_
   refine wcR ?_
   refine wM ?_
   refine wV (v_neq rfl rfl) ?_
   refine wM ?_
   refine wl_guard rfl rfl rfl (fun g55 => ?_) (fun g55 => ?_)
   rotate_left
   ·have g55p := of_nd_t g55
    refine wF g55 ?_
    refine wF g55 ?_
    refine wl_offu rfl rfl rfl ?_
    refine wl_offu rfl rfl rfl ?_
    refine wF g55 ?_
    refine wV (v_pick_t rfl g55 rfl) ?_
    refine wA ?_
    refine wl_nil ?_
    refine wc_ret ?_
    first
      | (have q_ := hTy
         exact ⟨_, res1 rfl rfl, congrArg Value.bool (dec_t hTy), H16.pm (by repeat (first | exact pm_refl _ | constructor | refine pm_skip ?_))⟩)
      | exact ⟨_, res1 rfl rfl, rfl, H16.pm (by repeat (first | exact pm_refl _ | constructor | refine pm_skip ?_))⟩
      | exact ⟨_, res1 rfl rfl, congrArg Value.bool (by simp [valE_one]), H16.pm (by repeat (first | exact pm_refl _ | constructor | refine pm_skip ?_))⟩
   have g55p := of_nd_f g55
   refine wM ?_
   refine wO g55 ?_
   refine wV (v_eql rfl rfl) ?_
   refine wO g55 ?_
   refine wM ?_
   refine wl_guard rfl rfl rfl (fun g58 => ?_) (fun g58 => ?_)
   rotate_left
   ·have g58p := oF g58
    exact absurd (h3 (h1.1 g55p)) g58p
   have g58p := oT g58
   refine wM ?_
   refine wO g58 ?_
   refine wV (v_neq rfl rfl) ?_
   refine wO g55 ?_
   refine wV (v_pick_t rfl g58 rfl) ?_
   refine wV (v_pick_f rfl g55 rfl) ?_
   refine wA ?_
   refine wl_nil ?_
   refine wc_ret ?_
   first
     | (have q_ := hTy
        exact ⟨_, res1 rfl rfl, congrArg Value.bool (dec_t hTy), H16.pm (by repeat (first | exact pm_refl _ | constructor | refine pm_skip ?_))⟩)
     | exact ⟨_, res1 rfl rfl, rfl, H16.pm (by repeat (first | exact pm_refl _ | constructor | refine pm_skip ?_))⟩
     | exact ⟨_, res1 rfl rfl, congrArg Value.bool (by simp [valE_one]), H16.pm (by repeat (first | exact pm_refl _ | constructor | refine pm_skip ?_))⟩
  have g45p := of_nd_f g45
  refine wM ?_
  refine wO g45 ?_
  refine wV (v_neq rfl rfl) ?_
  refine wV (v_pick_f rfl g45 rfl) ?_
  refine wM ?_
  refine wl_guard rfl rfl rfl (fun g49 => ?_) (fun g49 => ?_)
  rotate_left
  ·have g49p := of_nd_t g49
   refine wF g49 ?_
   refine wV (v_pick_t rfl g49 rfl) ?_
   refine wl_nil ?_
   refine wc_cond_t rfl ?_
   refine wcR ?_
   refine wM ?_
   refine wV (v_neq rfl rfl) ?_
   refine wM ?_
   refine wl_guard rfl rfl rfl (fun g55 => ?_) (fun g55 => ?_)
   rotate_left
   ·have g55p := of_nd_t g55
    refine wF g55 ?_
    refine wF g55 ?_
    refine wl_offu rfl rfl rfl ?_
    refine wl_offu rfl rfl rfl ?_
    refine wF g55 ?_
    refine wV (v_pick_t rfl g55 rfl) ?_
    refine wA ?_
    refine wl_nil ?_
    refine wc_ret ?_
    first
      | (have q_ := hTy
         exact ⟨_, res1 rfl rfl, congrArg Value.bool (dec_t hTy), H16.pm (by repeat (first | exact pm_refl _ | constructor | refine pm_skip ?_))⟩)
      | exact ⟨_, res1 rfl rfl, rfl, H16.pm (by repeat (first | exact pm_refl _ | constructor | refine pm_skip ?_))⟩
      | exact ⟨_, res1 rfl rfl, congrArg Value.bool (by simp [valE_one]), H16.pm (by repeat (first | exact pm_refl _ | constructor | refine pm_skip ?_))⟩
   have g55p := of_nd_f g55
   refine wM ?_
   refine wO g55 ?_
   refine wV (v_eql rfl rfl) ?_
   refine wO g55 ?_
   refine wM ?_
   refine wl_guard rfl rfl rfl (fun g58 => ?_) (fun g58 => ?_)
   rotate_left
   ·have g58p := oF g58
    exact absurd (h3 (h1.1 g55p)) g58p
   have g58p := oT g58
   refine wM ?_
   refine wO g58 ?_
   refine wV (v_neq rfl rfl) ?_
   refine wO g55 ?_
   refine wV (v_pick_t rfl g58 rfl) ?_
   refine wV (v_pick_f rfl g55 rfl) ?_
   refine wA ?_
   refine wl_nil ?_
   refine wc_ret ?_
   first
     | (have q_ := hTy
        exact ⟨_, res1 rfl rfl, congrArg Value.bool (dec_t hTy), H16.pm (by repeat (first | exact pm_refl _ | constructor | refine pm_skip ?_))⟩)
     | exact ⟨_, res1 rfl rfl, rfl, H16.pm (by repeat (first | exact pm_refl _ | constructor | refine pm_skip ?_))⟩
     | exact ⟨_, res1 rfl rfl, congrArg Value.bool (by simp [valE_one]), H16.pm (by repeat (first | exact pm_refl _ | constructor | refine pm_skip ?_))⟩
  have g49p := of_nd_f g49
  refine wM ?_
  refine wO g49 ?_
  refine wV (v_neq rfl rfl) ?_
  refine wV (v_pick_f rfl g49 rfl) ?_
  refine wl_nil ?_
  refine wc_cond rfl (fun c1 => ?_) (fun c1 => ?_)
  ·have c1p := of_nd_t c1
   refine wcR ?_
   refine wM ?_
   refine wV (v_neq rfl rfl) ?_
   refine wM ?_
   refine wl_guard rfl rfl rfl (fun g55 => ?_) (fun g55 => ?_)
   rotate_left
   ·have g55p := of_nd_t g55
    refine wF g55 ?_
    refine wF g55 ?_
    refine wl_offu rfl rfl rfl ?_
    refine wl_offu rfl rfl rfl ?_
    refine wF g55 ?_
    refine wV (v_pick_t rfl g55 rfl) ?_
    refine wA ?_
    refine wl_nil ?_
    refine wc_ret ?_
    first
      | (have q_ := hTy
         exact ⟨_, res1 rfl rfl, congrArg Value.bool (dec_t hTy), H16.pm (by repeat (first | exact pm_refl _ | constructor | refine pm_skip ?_))⟩)
      | exact ⟨_, res1 rfl rfl, rfl, H16.pm (by repeat (first | exact pm_refl _ | constructor | refine pm_skip ?_))⟩
      | exact ⟨_, res1 rfl rfl, congrArg Value.bool (by simp [valE_one]), H16.pm (by repeat (first | exact pm_refl _ | constructor | refine pm_skip ?_))⟩
   have g55p := of_nd_f g55
   refine wM ?_
   refine wO g55 ?_
   refine wV (v_eql rfl rfl) ?_
   refine wO g55 ?_
   refine wM ?_
   refine wl_guard rfl rfl rfl (fun g58 => ?_) (fun g58 => ?_)
   rotate_left
   ·have g58p := oF g58
    exact absurd (h3 (h1.1 g55p)) g58p
   have g58p := oT g58
   refine wM ?_
   refine wO g58 ?_
   refine wV (v_neq rfl rfl) ?_
   refine wO g55 ?_
   refine wV (v_pick_t rfl g58 rfl) ?_
   refine wV (v_pick_f rfl g55 rfl) ?_
   refine wA ?_
   refine wl_nil ?_
   refine wc_ret ?_
   first
     | (have q_ := hTy
        exact ⟨_, res1 rfl rfl, congrArg Value.bool (dec_t hTy), H16.pm (by repeat (first | exact pm_refl _ | constructor | refine pm_skip ?_))⟩)
     | exact ⟨_, res1 rfl rfl, rfl, H16.pm (by repeat (first | exact pm_refl _ | constructor | refine pm_skip ?_))⟩
     | exact ⟨_, res1 rfl rfl, congrArg Value.bool (by simp [valE_one]), H16.pm (by repeat (first | exact pm_refl _ | constructor | refine pm_skip ?_))⟩
  have c1p := of_nd_f c1
  have hC := h1.1 g45p
  have hTy := fits_law hC g49p
  have hst := hC.1.2.1.1
  have hrt := hC.2.2.1
  refine wc_skip ?_
  refine wc_seq ?_
  refine wc_tree [0, 1, 2, 3, 4, 5, 6, 7, 8, 9, 11] (fun W => Holds w [Blk b7 24 [.int .i64 (valR x.g d row).x.kind, .string (valR x.g d row).x.name, .int .i64 (valR x.g d row).x.tok, .slice Ap (valR x.g d row).kids.length cp], Blk b2 47 [.slice a.a.k x.g.kinds.length a.a.ck, .slice a.a.p x.g.precs.length a.a.cp, .slice a.a.r x.g.rules.length a.a.cr, .slice a.a.q x.g.prods.length a.a.cq, .int .i64 x.g.start, .slice a.l x.l.length a.cl, .slice a.t x.ty.length a.ct]] W) mixed ?_
  have Hd := H16.drew
  have HSd : Holds w [Blk b7 24 [.int .i64 (valR x.g d row).x.kind, .string (valR x.g d row).x.name, .int .i64 (valR x.g d row).x.tok, .slice Ap (valR x.g d row).kids.length cp], Blk b2 47 [.slice a.a.k x.g.kinds.length a.a.ck, .slice a.a.p x.g.precs.length a.a.cp, .slice a.a.r x.g.rules.length a.a.cr, .slice a.a.q x.g.prods.length a.a.cq, .int .i64 x.g.start, .slice a.l x.l.length a.cl, .slice a.t x.ty.length a.ct]] _ := Hd.pm (by repeat (first | exact pm_refl _ | constructor | refine pm_skip ?_))
  refine wjV (k := 0) rfl HSd (fun W HW => v_fb (o2 := 5) fa47_1 rfl rfl) ?_
  refine wjV (k := 1) rfl HSd (fun W HW => v_load one45 rfl (HW.at (by repeat constructor) rfl)) ?_
  refine wjV (k := 2) rfl HSd (fun W HW => v_loadN agg24 rfl rfl (HW.ats (by repeat constructor))) ?_
  refine wjV (k := 3) rfl HSd (fun W HW => v_fb (o2 := 6) fa47_2 rfl rfl) ?_
  refine wjV (k := 4) rfl HSd (fun W HW => v_load one40 rfl (HW.at (by repeat constructor) rfl)) ?_
  refine wjV (k := 5) rfl HSd (fun W HW => v_fb (o2 := 0) fa47_0 rfl rfl) ?_
  refine wjV (k := 6) rfl HSd (fun W HW => v_fb (o2 := 4) fa44_4 rfl rfl) ?_
  refine wjV (k := 7) rfl HSd (fun W HW => v_load one3 rfl (HW.at (by repeat constructor) rfl)) ?_
  refine wjV (k := 8) rfl HSd (fun W HW => v_idx Try.underlying40 sz9 hty.ad rfl rfl (by omega) (by omega)) ?_
  refine wjV (k := 9) rfl HSd (fun W HW => v_load one9 rfl (HW.cell (hty.at1s (by omega) (by omega)))) ?_
  refine wj_t (k := 10) rfl (by kernel_rfl) ?_
  refine wl_call en21 rfl rfl (ptyped_calls (t := (valR x.g d row)) (cd := a.cl) hk.l (hx.l.below Hd.old) (Hd.oRd (f := fNd) (e := 24) (x := ⟨0, ⟨#[]⟩, 0⟩) (by repeat constructor)) valR_small) ?_
  rintro _ w17 ⟨rfl, Hc⟩
  have H18 := Hd.call0 Hc
  have HS19 : Holds w [Blk b7 24 [.int .i64 (valR x.g d row).x.kind, .string (valR x.g d row).x.name, .int .i64 (valR x.g d row).x.tok, .slice Ap (valR x.g d row).kids.length cp], Blk b2 47 [.slice a.a.k x.g.kinds.length a.a.ck, .slice a.a.p x.g.precs.length a.a.cp, .slice a.a.r x.g.rules.length a.a.cr, .slice a.a.q x.g.prods.length a.a.cq, .int .i64 x.g.start, .slice a.l x.l.length a.cl, .slice a.t x.ty.length a.ct]] _ := H18.pm (by repeat (first | exact pm_refl _ | constructor | refine pm_skip ?_))
  refine wl_nil (tn ⟨fun _ => HS19, ?_⟩)
  refine wjV (k := 11) rfl HS19 (fun W HW => v_assign rfl) ?_
  refine wj_done (by kernel_rfl) ?_
  refine wc_ret ?_
  first
    | (have q_ := hTy
       exact ⟨_, res1 rfl rfl, congrArg Value.bool (dec_t hTy), H18.pm (by repeat (first | exact pm_refl _ | constructor | refine pm_skip ?_))⟩)
    | exact ⟨_, res1 rfl rfl, rfl, H18.pm (by repeat (first | exact pm_refl _ | constructor | refine pm_skip ?_))⟩
    | exact ⟨_, res1 rfl rfl, congrArg Value.bool (by simp [valE_one]), H18.pm (by repeat (first | exact pm_refl _ | constructor | refine pm_skip ?_))⟩
end Go.Proofs.Ytgdemplcpcacaaa.BFits

/-! How the arguments' types are read (seat 21). -/
namespace Go.Proofs.Ytgdemplcpcacaaa.RowTy
open Go Go.ChangeShapes Go.WideShapes Go.ChangeAt Go.RowKit Go.Deep Go.Joins Go.Proofs.YtgdemplcpcacaaaFx
theorem own : ownKnob Try.prog.godebug = none := by kernel_rfl
theorem laidOut : laidOutB Try.prog = true := by kernel_rfl
theorem rInt : Rds Try.prog 3 (kInt .i64) (fun a n => (Lit.int .i64 a).wf = true ∧ 1 ≤ n) := rds_int Try.underlying3 (by kernel_rfl)
theorem rStr : Rds Try.prog 9 kStr (fun a n => a.size + 1 ≤ n) := rds_str Try.underlying9 (by kernel_rfl)
theorem rRow : Rds Try.prog 51 (kInt .i64).sl (fun xs n => xs.length + 1 ≤ n ∧ ∀ x ∈ xs, ∃ m, m ≤ n ∧ (Lit.int .i64 x).wf = true ∧ 1 ≤ m) := rds_sl Try.underlying51 (by kernel_rfl) rInt
theorem rStrs : Rds Try.prog 40 kStr.sl (fun xs n => xs.length + 1 ≤ n ∧ ∀ x ∈ xs, ∃ m, m ≤ n ∧ x.size + 1 ≤ m) := rds_sl Try.underlying40 (by kernel_rfl) rStr
theorem gT : GTypes Try.prog 3 9 69 67 51 73 where
  i := rInt
  z := rStr
  a := ⟨_, _, _, _, Try.underlying69, rfl, rfl, rfl, rfl⟩
  ca := by kernel_rfl
  s := Try.underlying67
  cs := by kernel_rfl
  r := rRow
  p := ⟨_, _, _, _, Try.underlying73, rfl, rfl, rfl, rfl⟩
  cp := by kernel_rfl
theorem rPc : Rds Try.prog 145 fMv.kn (fun a n => (I64 a.d ∧ I64 a.n) ∧ 1 ≤ n) := rds_mv Try.underlying145 Try.underlying3 (by kernel_rfl) (by kernel_rfl) rfl rfl
theorem gT2 : GTypes2 Try.prog 3 73 40 41 42 44 where
  k := rStrs
  c := rds_sl Try.underlying41 (by kernel_rfl) rPc
  q := Try.underlying42
  cq := by kernel_rfl
  g := ⟨_, _, _, _, _, Try.underlying44, rfl, rfl, rfl, rfl, rfl⟩
  cg := by kernel_rfl
theorem dT : DtTypes Try.prog 9 40 80 81 83 45 where
  z := rStr
  zs := rStrs
  c := ⟨_, _, Try.underlying80, rfl, rfl⟩
  cc := by kernel_rfl
  cs := Try.underlying81
  ccs := by kernel_rfl
  d := ⟨_, _, Try.underlying83, rfl, rfl⟩
  cd := by kernel_rfl
  ds := Try.underlying45
  cds := by kernel_rfl
theorem gvT : GvTypes Try.prog 44 45 40 47 := ⟨⟨_, _, _, Try.underlying47, rfl, rfl, rfl⟩, by kernel_rfl⟩
theorem dvT : DvTypes Try.prog 3 50 48 := ⟨rInt, ⟨_, _, _, Try.underlying50, rfl, rfl, rfl⟩, by kernel_rfl, Try.underlying48, by kernel_rfl⟩
theorem teT : TeTypes Try.prog 50 51 53 := ⟨⟨_, _, Try.underlying53, rfl, rfl⟩, by kernel_rfl⟩
theorem ndT : NdTypes Try.prog 3 9 24 22 := ⟨rInt, rStr, ⟨_, _, _, _, Try.underlying24, rfl, rfl, rfl, rfl⟩, by kernel_rfl, Try.underlying22, by kernel_rfl⟩
/-- A node, read. -/
theorem rd_nd {H : Type} {enc : TypeId × Value → H} {w : World} {base : Nat} {spare : Nat → Bool} {held : Bool} {fuel : Nat} {cs : List Value} {x : DataW H × List MemPlace} (h : DataW.trod enc Try.prog w base spare held fuel 24 cs = some x) (hN : Rows.uptoBulk x.1 ≤ 1048576) :
    ∃ (t : Nd) (A : Option Addr) (k : Nat), cs = [.int .i64 t.x.kind, .string t.x.name, .int .i64 t.x.tok, .slice A t.kids.length k] ∧ Rd (kTr fNd) w A t.kids ∧ t.cnt ≤ 1048576 ∧ t.All (ndSm 1048576) ∧ t.kids.length ≤ k := by
  obtain ⟨t, hk, h1, h2⟩ := (rdsN_nd ndT (Rows.uptoBulk x.1)).rd h (Nat.le_refl _)
  obtain ⟨A, k, hA, hl, hr⟩ := Tr.K.open hk
  exact ⟨t, A, k, hA, hr, by omega, Tr.All.imp (fun y k hy => ⟨by have := hy.1; omega, by have := hy.2; omega⟩) t h2, hl⟩
theorem small_nd {t : Nd} (h : t.All (ndSm 1048576)) : t.All smallN := Tr.All.imp (fun y k hy => ⟨by have := hy.1; omega, by have := hy.2; omega⟩) t h
/-- Data, read. -/
theorem rd_dts {H : Type} {enc : TypeId × Value → H} {w : World} {base : Nat} {spare : Nat → Bool} {held : Bool} {fuel : Nat} {cs : List Value} {x : DataW H × List MemPlace} (h : DataW.trod enc Try.prog w base spare held fuel 45 cs = some x) (hN : Rows.uptoBulk x.1 ≤ 1048576) :
    ∃ (l : List Dt) (A : Option Addr) (c : Nat), cs = [.slice A l.length c] ∧ Rd kDt w A l ∧ DOk l ∧ l.length ≤ c := by
  obtain ⟨l, ⟨A, c, hc, hle, hr⟩, hl, _⟩ := (rdsN_dts dT (Nat.le_refl 1048576)).rd h hN
  exact ⟨l, A, c, hc, hr, hl, hle⟩
end Go.Proofs.Ytgdemplcpcacaaa.RowTy
