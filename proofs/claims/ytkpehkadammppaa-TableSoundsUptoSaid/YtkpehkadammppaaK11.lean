/- Is a table sound for a grammar? (the document's) The table of one state. What table.usual tells: a row's default. -/
import Derived.Test.YtkpehkadammppaaProg
import Derived.Test.YtkpehkadammppaaK09
import Derived.Test.YtkpehkadammppaaK07
import Derived.Test.YtkpehkadammppaaK08
import Derived.Test.YtkpehkadammppaaK10
import Derived.Test.YtkpehkadammppaaK03
set_option linter.unusedVariables false
set_option linter.unusedSimpArgs false
/-! Is a table sound for a grammar? (the document's) -/
namespace Go.Proofs.Ytkpehkadammppaa.RSound
open Go Go.RowKit Go.Proofs.YtkpehkadammppaaFx Go.Proofs.Ytkpehkadammppaa.RRight Go.Proofs.Ytkpehkadammppaa.FromW Go.Proofs.Ytkpehkadammppaa.KnownW Go.Proofs.Ytkpehkadammppaa.GramW Go.Proofs.Ytkpehkadammppaa.Chk Go.Proofs.Ytkpehkadammppaa.TabB Go.Proofs.Ytkpehkadammppaa.PSound
theorem agg25 : Agg Try.prog 25 2 := agg_of Try.underlying25 (by kernel_rfl)
theorem agg48 : Agg Try.prog 48 2 := agg_of Try.underlying48 (by kernel_rfl)
theorem agg53 : Agg Try.prog 53 5 := agg_of Try.underlying53 (by kernel_rfl)
theorem ba103 : BuildAt Try.prog 103 [.slice none 0 0, .slice none 0 0, .slice none 0 0, .slice none 0 0, .int .i64 0, .slice none 0 0, .slice none 0 0, .slice none 0 0, .slice none 0 0] [(0, 5), (5, 2), (7, 1), (8, 1)] := build_at Try.underlying103 (by kernel_rfl) (by kernel_rfl)
theorem ba106 : BuildAt Try.prog 106 [.int .i64 0, .int .i64 0, .int .i64 0] [(0, 1), (1, 1), (2, 1)] := build_at Try.underlying106 (by kernel_rfl) (by kernel_rfl)
theorem en13 : Enters Try.prog 13 := enters Try.func13 (by kernel_rfl) rfl
theorem en46 : Enters Try.prog 46 := enters Try.func46 (by kernel_rfl) rfl
theorem en47 : Enters Try.prog 47 := enters Try.func47 (by kernel_rfl) rfl
theorem en48 : Enters Try.prog 48 := enters Try.func48 (by kernel_rfl) rfl
theorem en49 : Enters Try.prog 49 := enters Try.func49 (by kernel_rfl) rfl
theorem fa103_2 : FieldAt Try.prog 103 2 7 := field_at (sz := 0) Try.underlying103 rfl (by kernel_rfl) rfl
theorem fa103_3 : FieldAt Try.prog 103 3 8 := field_at (sz := 0) Try.underlying103 rfl (by kernel_rfl) rfl
theorem fa25_0 : FieldAt Try.prog 25 0 0 := field_at (sz := 0) Try.underlying25 rfl (by kernel_rfl) rfl
theorem fa25_1 : FieldAt Try.prog 25 1 1 := field_at (sz := 0) Try.underlying25 rfl (by kernel_rfl) rfl
theorem fa53_0 : FieldAt Try.prog 53 0 0 := field_at (sz := 0) Try.underlying53 rfl (by kernel_rfl) rfl
theorem fa53_2 : FieldAt Try.prog 53 2 2 := field_at (sz := 0) Try.underlying53 rfl (by kernel_rfl) rfl
theorem fa53_3 : FieldAt Try.prog 53 3 3 := field_at (sz := 0) Try.underlying53 rfl (by kernel_rfl) rfl
theorem info106 : (Try.prog.info? 106).map (fun i => (i.zero, i.size, i.bytes)) = some (some (.agg #[.int .i64 0, .int .i64 0, .int .i64 0]), 3, 24) := by kernel_rfl
theorem info4 : (Try.prog.info? 4).map (fun i => (i.zero, i.size, i.bytes)) = some (some (.bool false), 1, 1) := by kernel_rfl
theorem mixed : Try.prog.follows .mixedOrders = true := by kernel_rfl
theorem one101 : One Try.prog 101 := one_of Try.underlying101 rfl (by kernel_rfl)
theorem one22 : One Try.prog 22 := one_of Try.underlying22 rfl (by kernel_rfl)
theorem one23 : One Try.prog 23 := one_of Try.underlying23 rfl (by kernel_rfl)
theorem one3 : One Try.prog 3 := one_of Try.underlying3 rfl (by kernel_rfl)
theorem one38 : One Try.prog 38 := one_of Try.underlying38 rfl (by kernel_rfl)
theorem one39 : One Try.prog 39 := one_of Try.underlying39 rfl (by kernel_rfl)
theorem one4 : One Try.prog 4 := one_of Try.underlying4 rfl (by kernel_rfl)
theorem one49 : One Try.prog 49 := one_of Try.underlying49 rfl (by kernel_rfl)
theorem one51 : One Try.prog 51 := one_of Try.underlying51 rfl (by kernel_rfl)
theorem one97 : One Try.prog 97 := one_of Try.underlying97 rfl (by kernel_rfl)
theorem sz101 : ∀ W, (sizeOf 101).run Try.prog W = .ok 1 W := size_of (by kernel_rfl)
theorem sz103 : ∀ W, (sizeOf 103).run Try.prog W = .ok 9 W := size_of (by kernel_rfl)
theorem sz106 : ∀ W, (sizeOf 106).run Try.prog W = .ok 3 W := size_of (by kernel_rfl)
theorem sz3 : ∀ W, (sizeOf 3).run Try.prog W = .ok 1 W := size_of (by kernel_rfl)
theorem sz38 : ∀ W, (sizeOf 38).run Try.prog W = .ok 1 W := size_of (by kernel_rfl)
theorem sz39 : ∀ W, (sizeOf 39).run Try.prog W = .ok 1 W := size_of (by kernel_rfl)
theorem sz4 : ∀ W, (sizeOf 4).run Try.prog W = .ok 1 W := size_of (by kernel_rfl)
theorem sz48 : ∀ W, (sizeOf 48).run Try.prog W = .ok 2 W := size_of (by kernel_rfl)
theorem zv103 : ∀ W, (zeroValue 103).run Try.prog W = .ok (.agg #[.slice none 0 0, .slice none 0 0, .slice none 0 0, .slice none 0 0, .int .i64 0, .slice none 0 0, .slice none 0 0, .slice none 0 0, .slice none 0 0]) W := zero_of (by kernel_rfl)
theorem zv106 : ∀ W, (zeroValue 106).run Try.prog W = .ok (.agg #[.int .i64 0, .int .i64 0, .int .i64 0]) W := zero_of (by kernel_rfl)

set_option maxHeartbeats 12800000 in
set_option maxRecDepth 100000 in
theorem rsound_calls {g : Pl} {a : PlA} {t : Tb} {A B : Option Addr} {ca cb : Nat} {w : World} (hr : g.rd w a) (hg : g.ok) (hx : t.rd w A B) (hk : t.ok) :
    Calls Try.prog 20 #[.agg #[.slice a.k g.kinds.length a.ck, .slice a.p g.precs.length a.cp, .slice a.r g.rules.length a.cr, .slice a.q g.prods.length a.cq, .int .i64 g.start], .agg #[.slice A t.mv.length ca, .slice B t.go.length cb]] w fun e w' => ∃ v, e = .returned v ∧ ∃ x y : Int, v = .tuple #[.int .i64 x, .int .i64 y] ∧ SRes g t x y ∧ Holds w [] w' := by
  have hgk := hg.k
  have hgr := hg.r
  have hgq := hg.q
  refine calls_of Try.func20 rfl Try.ntmps20 rfl ?_
  have H := Holds.start w
  refine wc_seq ?_
  refine wc_region ?_
  refine wl_box (cs := [_, _, _, _, _]) H rfl rfl rfl ?_
  intro b2 w1 hb2 H2
  refine wl_box (cs := [_, _]) H2 rfl rfl rfl ?_
  intro b3 w3 hb3 H4
  refine wl_v rfl rfl rfl (v_assign rfl) ?_
  refine wl_v rfl rfl rfl (v_assign rfl) ?_
  refine wl_nil ?_
  refine wc_seq ?_
  refine wc_seq ?_
  refine wc_region ?_
  refine wl_v rfl rfl rfl (v_loadN agg53 rfl rfl (H4.ats (by repeat constructor))) ?_
  refine wl_call en46 rfl rfl (rgcheck_calls (hr.below H4.old) hg) ?_
  rintro _ w5 ⟨rfl, Hc⟩
  have H6 := H4.call0 Hc
  refine wl_v rfl rfl rfl (v_neq rfl rfl) ?_
  refine wl_nil ?_
  refine wc_cond rfl (fun c0 => ?_) (fun c0 => ?_)
  ·have c0p := of_nd_t c0
   have hG := checkG_n c0p
   refine wc_seq ?_
   refine wc_region ?_
   refine wl_v rfl rfl rfl (v_assign rfl) ?_
   refine wl_v rfl rfl rfl (v_assign rfl) ?_
   refine wl_nil ?_
   refine wc_ret ?_
   first
     | exact ⟨_, res2 rfl rfl rfl, _, _, rfl, .inl ⟨hG, rfl, rfl⟩, H6.pm (Pm.nil _)⟩
     | exact ⟨_, res2 rfl rfl rfl, _, _, rfl, .inr (.inl ⟨hG, c1p, rfl, rfl⟩), H6.pm (Pm.nil _)⟩
     | exact ⟨_, res2 rfl rfl rfl, _, _, rfl, .inr (.inr ⟨hG, c1p, .inl ⟨i, rfl, rfl, by omega, ⟨(hM i).1 g134, of_ndec (of_n_t c11)⟩, ha⟩⟩), H6.pm (Pm.nil _)⟩
     | exact ⟨_, res2 rfl rfl rfl, _, _, rfl, .inr (.inr ⟨hG, c1p, .inr ⟨rfl, rfl, fun s hs => ha s (by omega)⟩⟩), H6.pm (Pm.nil _)⟩
  ·have c0p := of_nd_f c0
   have hG := checkG_0 c0p
   refine wc_skip ?_
   refine wc_seq ?_
   refine wc_seq ?_
   refine wc_region ?_
   refine wl_v rfl rfl rfl (v_loadN agg25 rfl rfl (H6.ats (by repeat constructor))) ?_
   refine wl_v rfl rfl rfl (v_fb (o2 := 0) fa53_0 rfl rfl) ?_
   refine wl_v rfl rfl rfl (v_load one49 rfl (H6.at (by repeat constructor) rfl)) ?_
   refine wl_v rfl rfl rfl (v_len Try.underlying49 rfl) ?_
   refine wl_v rfl rfl rfl (v_fb (o2 := 2) fa53_2 rfl rfl) ?_
   refine wl_v rfl rfl rfl (v_load one49 rfl (H6.at (by repeat constructor) rfl)) ?_
   refine wl_v rfl rfl rfl (v_len Try.underlying49 rfl) ?_
   refine wl_v rfl rfl rfl (v_fb (o2 := 3) fa53_3 rfl rfl) ?_
   refine wl_v rfl rfl rfl (v_load one51 rfl (H6.at (by repeat constructor) rfl)) ?_
   refine wl_v rfl rfl rfl (v_len Try.underlying51 rfl) ?_
   refine wl_call en13 rfl rfl (rcheck_calls (hx.below H6.old) hk (by unfold I64; omega) (by unfold I64; omega) (by unfold I64; omega)) ?_
   rintro _ w7 ⟨rfl, Hc⟩
   have H8 := H6.call0 Hc
   refine wl_v rfl rfl rfl (v_neq rfl rfl) ?_
   refine wl_nil ?_
   refine wc_cond rfl (fun c1 => ?_) (fun c1 => ?_)
   ·have c1p := of_nd_t c1
    refine wc_seq ?_
    refine wc_region ?_
    refine wl_v rfl rfl rfl (v_assign rfl) ?_
    refine wl_v rfl rfl rfl (v_assign rfl) ?_
    refine wl_nil ?_
    refine wc_ret ?_
    first
      | exact ⟨_, res2 rfl rfl rfl, _, _, rfl, .inl ⟨hG, rfl, rfl⟩, H8.pm (Pm.nil _)⟩
      | exact ⟨_, res2 rfl rfl rfl, _, _, rfl, .inr (.inl ⟨hG, c1p, rfl, rfl⟩), H8.pm (Pm.nil _)⟩
      | exact ⟨_, res2 rfl rfl rfl, _, _, rfl, .inr (.inr ⟨hG, c1p, .inl ⟨i, rfl, rfl, by omega, ⟨(hM i).1 g134, of_ndec (of_n_t c11)⟩, ha⟩⟩), H8.pm (Pm.nil _)⟩
      | exact ⟨_, res2 rfl rfl rfl, _, _, rfl, .inr (.inr ⟨hG, c1p, .inr ⟨rfl, rfl, fun s hs => ha s (by omega)⟩⟩), H8.pm (Pm.nil _)⟩
   ·have c1p := of_nd_f c1
    have hf : Fit2 g t := checkF_good c1p
    have hn1 := hf.1
    have hn2 := hf.2.1
    have hng := hf.2.2.1
    have hrow := hf.2.2.2
    have hGk := hG.1.1.1.2.1
    have hGr := hG.1.2.2.2.1.2
    refine wc_skip ?_
    refine wc_seq ?_
    refine wc_tree [0, 1, 2, 3, 4, 6] (fun W => Holds w [Blk b3 25 [.slice A t.mv.length ca, .slice B t.go.length cb], Blk b2 53 [.slice a.k g.kinds.length a.ck, .slice a.p g.precs.length a.cp, .slice a.r g.rules.length a.cr, .slice a.q g.prods.length a.cq, .int .i64 g.start]] W) mixed ?_
    have Hd := H8.drew
    have HSd : Holds w [Blk b3 25 [.slice A t.mv.length ca, .slice B t.go.length cb], Blk b2 53 [.slice a.k g.kinds.length a.ck, .slice a.p g.precs.length a.cp, .slice a.r g.rules.length a.cr, .slice a.q g.prods.length a.cq, .int .i64 g.start]] _ := Hd.pm (by repeat constructor)
    refine wj_v (k := 0) rfl (by kernel_rfl) (fun _ _ _ h => h) HSd rfl rfl rfl (fun W HW => v_loadN agg53 rfl rfl (HW.ats (by repeat constructor))) ?_
    refine wj_v (k := 1) rfl (by kernel_rfl) (fun _ _ _ h => h) HSd rfl rfl rfl (fun W HW => v_loadN agg25 rfl rfl (HW.ats (by repeat constructor))) ?_
    refine wj_v (k := 2) rfl (by kernel_rfl) (fun _ _ _ h => h) HSd rfl rfl rfl (fun W HW => v_fb (o2 := 0) fa25_0 rfl rfl) ?_
    refine wj_v (k := 3) rfl (by kernel_rfl) (fun _ _ _ h => h) HSd rfl rfl rfl (fun W HW => v_load one22 rfl (HW.at (by repeat constructor) rfl)) ?_
    refine wj_v (k := 4) rfl (by kernel_rfl) (fun _ _ _ h => h) HSd rfl rfl rfl (fun W HW => v_len Try.underlying22 rfl) ?_
    refine wj_2 (k := 5) (k2 := 7) rfl rfl (by kernel_rfl) ?_ ?_
    ·refine wl_make (f := fBool) (z' := false) Hd rfl Try.underlying97 info4 rfl (by decide) rfl rfl (by omega) (by omega) (by decide) ?_
     rw [Int.toNat_natCast]
     intro Am w9 H9 hs9
     have HS10 : Holds w [Blk b3 25 [.slice A t.mv.length ca, .slice B t.go.length cb], Blk b2 53 [.slice a.k g.kinds.length a.ck, .slice a.p g.precs.length a.cp, .slice a.r g.rules.length a.cr, .slice a.q g.prods.length a.cq, .int .i64 g.start]] _ := H9.pm (by repeat constructor)
     refine wl_nil (tn ⟨fun _ => HS10, ?_⟩)
     refine wj_v (k := 6) rfl (by kernel_rfl) (fun _ _ _ h => h) HS10 rfl rfl rfl (fun W HW => v_bld ba103 rfl (by repeat constructor)) ?_
     refine wj_t (k := 7) rfl (by kernel_rfl) ?_
     refine wl_alloc (cs := [.slice none 0 0, .slice none 0 0, .slice none 0 0, .slice none 0 0, .int .i64 0, .slice none 0 0, .slice none 0 0, .slice none 0 0, .slice none 0 0]) H9 rfl zv103 rfl ?_
     intro b6 w11 hb6 H12
     have HS13 : Holds w [Blk b3 25 [.slice A t.mv.length ca, .slice B t.go.length cb], Blk b2 53 [.slice a.k g.kinds.length a.ck, .slice a.p g.precs.length a.cp, .slice a.r g.rules.length a.cr, .slice a.q g.prods.length a.cq, .int .i64 g.start]] _ := H12.pm (by repeat constructor)
     refine wl_nil (tn ⟨fun _ => HS13, ?_⟩)
     refine wj_t (k := 8) rfl (by kernel_rfl) ?_
     refine wl_store (vs := [_, _, _, _, _, _, _, _, _]) H12 (by repeat constructor) sz103 rfl rfl rfl rfl rfl (by (repeat constructor)) ?_
     intro w14 H15 hw14
     refine wl_nil (tn ⟨fun hlt => absurd hlt (by rw [show allH _ _ _ = true by kernel_rfl]; simp), ?_⟩)
     refine wj_done (by kernel_rfl) ?_
     refine wc_seq ?_
     refine wc_region ?_
     refine wl_v rfl rfl rfl (v_fb (o2 := 8) fa103_3 rfl rfl) ?_
     refine wl_v rfl rfl rfl (v_load one97 rfl (H15.at (by repeat constructor) rfl)) ?_
     refine wl_v rfl rfl rfl (v_idx Try.underlying97 sz4 (fun h_ => (H15.rrd (f := fBool) (e := 4) (A := Am) (xs := List.replicate t.mv.length false) (by repeat constructor)).ad (by rw [List.length_replicate]; exact h_)) rfl rfl (by omega) (by omega)) ?_
     refine wl_storeR (f := fBool) (xs := List.replicate t.mv.length false) (i := (0 : Int)) (x' := true) H15 (by repeat constructor) sz4 rfl rfl rfl (by omega) (by rw [List.length_replicate]; omega) ?_
     intro w17 H17
     refine wl_nil ?_
     refine wc_seq ?_
     refine wc_seq ?_
     refine wc_region ?_
     refine wl_v rfl rfl rfl (v_assign rfl) ?_
     refine wl_nil ?_
     refine wc_block ?_
     refine wc_loop (σ := List Bool × Bool) (fun s' => [(2, .pointer (some ⟨b2, 0, none⟩)), (3, .pointer (some ⟨b3, 0, none⟩)), (6, .pointer (some ⟨b6, 0, none⟩)), (7, .bool s'.2)]) (fun s' W => ((s'.1.length = t.mv.length ∧ s'.1.getD 0 false = true) ∧ (∀ q : Nat, s'.1.getD q false = true → Rch g t q) ∧ (s'.2 = false → ∀ q : Nat, s'.1.getD q false = true ↔ Rch g t q)) ∧ Holds w [Blk b6 103 [.slice a.k g.kinds.length a.ck, .slice a.p g.precs.length a.cp, .slice a.r g.rules.length a.cr, .slice a.q g.prods.length a.cq, .int .i64 g.start, .slice A t.mv.length ca, .slice B t.go.length cb, (.slice none 0 0), .slice Am t.mv.length t.mv.length], Row fBool 4 (.slice Am t.mv.length t.mv.length) s'.1, Blk b3 25 [.slice A t.mv.length ca, .slice B t.go.length cb], Blk b2 53 [.slice a.k g.kinds.length a.ck, .slice a.p g.precs.length a.cp, .slice a.r g.rules.length a.cr, .slice a.q g.prods.length a.cq, .int .i64 g.start]] W) (fun s' => 2 * cntF s'.1 + (if s'.2 then 1 else 0)) ((List.replicate t.mv.length false).set 0 true, true) (sc rfl (sc rfl (sc rfl (sc rfl (sn _))))) ⟨⟨⟨by simp, by rw [set_get (by rw [List.length_replicate]; omega)]; rfl⟩, fun q hq => by (rw [set_get (by rw [List.length_replicate]; omega)] at hq; split at hq; (rename_i e; exact e ▸ .zero); (rw [List.getD_eq_getElem?_getD, List.getElem?_replicate] at hq; split at hq <;> cases hq)), fun h => absurd h Bool.noConfusion⟩, H17.pm (by repeat constructor)⟩ ?_
     rintro ⟨M, fr0⟩ W0 ⟨⟨⟨hMl, hM0⟩, hMr, hMd⟩, H⟩
     dsimp only at hMl hM0 hMr hMd H ⊢
     refine wc_seq ?_
     refine wc_seq ?_
     refine wc_region ?_
     refine wl_v rfl rfl rfl (v_move rfl) ?_
     refine wl_nil ?_
     refine wc_cond rfl (fun c2 => ?_) (fun c2 => ?_)
     ·obtain ⟨M00, hM00⟩ : ∃ M00, M00 = M := ⟨_, rfl⟩
      have hR0 : RdI g t M00 0 M false := ⟨hMl, hM0, hMr, fun _ => ⟨hM00.symm, fun s hs => absurd hs (by omega)⟩, fun h => absurd h Bool.noConfusion⟩
      refine wc_skip ?_
      refine wc_block ?_
      refine wc_seq ?_
      refine wc_region ?_
      refine wl_v rfl rfl rfl (v_assign rfl) ?_
      refine wl_nil ?_
      refine wc_seq ?_
      refine wc_region ?_
      refine wl_v rfl rfl rfl (v_assign rfl) ?_
      refine wl_nil ?_
      refine wc_block ?_
      refine wc_loop (σ := Nat × List Bool × Bool) (fun s' => [(2, .pointer (some ⟨b2, 0, none⟩)), (3, .pointer (some ⟨b3, 0, none⟩)), (6, .pointer (some ⟨b6, 0, none⟩)), (7, .bool s'.2.2), (8, .int .i64 s'.1)]) (fun s' W => (s'.1 ≤ t.mv.length ∧ RdI g t M00 s'.1 s'.2.1 s'.2.2) ∧ Holds w [Blk b6 103 [.slice a.k g.kinds.length a.ck, .slice a.p g.precs.length a.cp, .slice a.r g.rules.length a.cr, .slice a.q g.prods.length a.cq, .int .i64 g.start, .slice A t.mv.length ca, .slice B t.go.length cb, (.slice none 0 0), .slice Am t.mv.length t.mv.length], Row fBool 4 (.slice Am t.mv.length t.mv.length) s'.2.1, Blk b3 25 [.slice A t.mv.length ca, .slice B t.go.length cb], Blk b2 53 [.slice a.k g.kinds.length a.ck, .slice a.p g.precs.length a.cp, .slice a.r g.rules.length a.cr, .slice a.q g.prods.length a.cq, .int .i64 g.start]] W) (fun s' => t.mv.length - s'.1) (0, M, false) (sc rfl (sc rfl (sc rfl (sc rfl (sc rfl (sn _)))))) ⟨⟨Nat.zero_le _, hR0⟩, H⟩ ?_
      rintro ⟨i, M, fr⟩ W1 ⟨⟨hi, hR⟩, H⟩
      dsimp only at hi hR H ⊢
      have hMl := hR.len
      refine wc_seq ?_
      refine wc_seq ?_
      refine wc_region ?_
      refine wl_v rfl rfl rfl (v_move rfl) ?_
      refine wl_v rfl rfl rfl (v_fb (o2 := 0) fa25_0 rfl rfl) ?_
      refine wl_v rfl rfl rfl (v_load one22 rfl (H.at (by repeat constructor) rfl)) ?_
      refine wl_v rfl rfl rfl (v_len Try.underlying22 rfl) ?_
      refine wl_v rfl rfl rfl (v_lss rfl rfl) ?_
      refine wl_nil ?_
      refine wc_cond rfl (fun c3 => ?_) (fun c3 => ?_)
      ·have c3p := of_decide_eq_true c3
       refine wc_skip ?_
       refine wc_seq ?_
       refine wc_block ?_
       refine wc_seq ?_
       refine wc_region ?_
       refine wl_v rfl rfl rfl (v_fb (o2 := 8) fa103_3 rfl rfl) ?_
       refine wl_v rfl rfl rfl (v_load one97 rfl (H.at (by repeat constructor) rfl)) ?_
       refine wl_v rfl rfl rfl (v_move rfl) ?_
       refine wl_v rfl rfl rfl (v_idx Try.underlying97 sz4 (fun h_ => (H.rrd (f := fBool) (e := 4) (A := Am) (xs := M) (by repeat constructor)).ad (by omega)) rfl rfl (by omega) (by omega)) ?_
       refine wl_v rfl rfl rfl (v_load one4 rfl ((H.rrd (f := fBool) (e := 4) (A := Am) (xs := M) (by repeat constructor)).at1bN (i := i) (by omega))) ?_
       refine wl_nil ?_
       refine wc_cond rfl (fun c4 => ?_) (fun c4 => ?_)
       ·refine wc_region ?_
        refine wl_v rfl rfl rfl (v_move rfl) ?_
        refine wl_call en47 rfl rfl (from_calls (g := g) (a := a) (s := i) (M0 := M) (L := [Blk b3 25 [.slice A t.mv.length ca, .slice B t.go.length cb], Blk b2 53 [.slice a.k g.kinds.length a.ck, .slice a.p g.precs.length a.cp, .slice a.r g.rules.length a.cr, .slice a.q g.prods.length a.cq, .int .i64 g.start]]) (H.pm (by repeat constructor)) hx hf (by omega) hMl hk) ?_
        rintro _ w18 ⟨M2, fr2, rfl, hF, Hc⟩
        refine wl_v rfl rfl rfl (v_move rfl) ?_
        refine wl_guard rfl rfl rfl (fun g53 => ?_) (fun g53 => ?_)
        ·refine wl_v rfl rfl rfl (v_move rfl) ?_
         refine wl_v rfl rfl rfl (v_pick_f rfl g53 rfl) ?_
         refine wl_v rfl rfl rfl (v_assign rfl) ?_
         refine wl_nil ?_
         refine wc_region ?_
         refine wl_v rfl rfl rfl (v_move rfl) ?_
         refine wl_v rfl rfl rfl (v_addi rfl rfl (by omega)) ?_
         refine wl_v rfl rfl rfl (v_assign rfl) ?_
         refine wl_nil ?_
         first
           | (have q_ := g53
              exact ⟨(i + 1, M2, _), (sc rfl (sc rfl (sc rfl (sc rfl (sc rfl (sn _)))))), ⟨⟨by dsimp only; omega, hR.next (by have h_ := c4; exact h_) hF (by rw [g53]; rfl)⟩, Hc.pm (by repeat constructor)⟩, by dsimp only; omega⟩)
           | exact ⟨(i + 1, M, fr), (sc rfl (sc rfl (sc rfl (sc rfl (sc rfl (sn _)))))), ⟨⟨by dsimp only; omega, hR.skip (by have h_ := c4; exact h_)⟩, Hc.pm (by repeat constructor)⟩, by dsimp only; omega⟩
        ·refine wl_v rfl rfl rfl (v_pick_t rfl g53 rfl) ?_
         refine wl_v rfl rfl rfl (v_assign rfl) ?_
         refine wl_nil ?_
         refine wc_region ?_
         refine wl_v rfl rfl rfl (v_move rfl) ?_
         refine wl_v rfl rfl rfl (v_addi rfl rfl (by omega)) ?_
         refine wl_v rfl rfl rfl (v_assign rfl) ?_
         refine wl_nil ?_
         first
           | (have q_ := g53
              exact ⟨(i + 1, M2, _), (sc rfl (sc rfl (sc rfl (sc rfl (sc rfl (sn _)))))), ⟨⟨by dsimp only; omega, hR.next (by have h_ := c4; exact h_) hF (by rw [g53]; rfl)⟩, Hc.pm (by repeat constructor)⟩, by dsimp only; omega⟩)
           | exact ⟨(i + 1, M, fr), (sc rfl (sc rfl (sc rfl (sc rfl (sc rfl (sn _)))))), ⟨⟨by dsimp only; omega, hR.skip (by have h_ := c4; exact h_)⟩, Hc.pm (by repeat constructor)⟩, by dsimp only; omega⟩
       ·refine wc_skip ?_
        refine wc_region ?_
        refine wl_v rfl rfl rfl (v_move rfl) ?_
        refine wl_v rfl rfl rfl (v_addi rfl rfl (by omega)) ?_
        refine wl_v rfl rfl rfl (v_assign rfl) ?_
        refine wl_nil ?_
        first
          | (have q_ := g53
             exact ⟨(i + 1, M2, _), (sc rfl (sc rfl (sc rfl (sc rfl (sc rfl (sn _)))))), ⟨⟨by dsimp only; omega, hR.next (by have h_ := c4; exact h_) hF (by rw [g53]; rfl)⟩, H.pm (by repeat constructor)⟩, by dsimp only; omega⟩)
          | exact ⟨(i + 1, M, fr), (sc rfl (sc rfl (sc rfl (sc rfl (sc rfl (sn _)))))), ⟨⟨by dsimp only; omega, hR.skip (by have h_ := c4; exact h_)⟩, H.pm (by repeat constructor)⟩, by dsimp only; omega⟩
      ·have c3p := of_decide_eq_false c3
       refine wc_exit ?_
       refine ⟨(M, fr), (sc rfl (sc rfl (sc rfl (sc rfl (sn _))))), ⟨⟨⟨hMl, hR.h0⟩, hR.rch, fun e => ?_⟩, H⟩, ?_⟩
       · have e' : fr = false := e
         subst e'
         exact hR.done (by omega) hf
       · rw [show fr0 = true from c2]
         dsimp only
         cases hfr : fr
         · have h_ := (hR.cl hfr).1
           rw [h_, hM00]
           simp
         · have h_ := hR.more hfr
           rw [hM00] at h_
           rw [if_pos rfl]
           omega
     ·have hM := hMd c2
      refine wc_exit ?_
      refine wc_seq ?_
      refine wc_seq ?_
      refine wc_region ?_
      refine wl_v rfl rfl rfl (v_assign rfl) ?_
      refine wl_nil ?_
      refine wc_block ?_
      refine wc_loop (σ := Nat × Value × List Ed) (fun s' => [(2, .pointer (some ⟨b2, 0, none⟩)), (3, .pointer (some ⟨b3, 0, none⟩)), (6, .pointer (some ⟨b6, 0, none⟩)), (9, .int .i64 s'.1)]) (fun s' W => ((s'.1 ≤ t.mv.length ∧ s'.2.2.length ≤ s'.1 * 4096) ∧ Ek (Dq g t (Pn g t s'.1)) s'.2.2) ∧ Holds w [Blk b6 103 [.slice a.k g.kinds.length a.ck, .slice a.p g.precs.length a.cp, .slice a.r g.rules.length a.cr, .slice a.q g.prods.length a.cq, .int .i64 g.start, .slice A t.mv.length ca, .slice B t.go.length cb, s'.2.1, .slice Am t.mv.length t.mv.length], Row fEd 106 s'.2.1 s'.2.2, Row fBool 4 (.slice Am t.mv.length t.mv.length) M, Blk b3 25 [.slice A t.mv.length ca, .slice B t.go.length cb], Blk b2 53 [.slice a.k g.kinds.length a.ck, .slice a.p g.precs.length a.cp, .slice a.r g.rules.length a.cr, .slice a.q g.prods.length a.cq, .int .i64 g.start]] W) (fun s' => t.mv.length - s'.1) (0, .slice none 0 0, []) (sc rfl (sc rfl (sc rfl (sc rfl (sn _))))) ⟨⟨⟨Nat.zero_le _, Nat.zero_le _⟩, Ek.nil.cong dq_nil⟩, (H.nilrow 106 3).pm (by repeat constructor)⟩ ?_
      rintro ⟨s, ev, E⟩ W2 ⟨⟨⟨hs, hEl⟩, hEk⟩, H⟩
      dsimp only at hs hEl hEk H ⊢
      refine wc_seq ?_
      refine wc_seq ?_
      refine wc_region ?_
      refine wl_v rfl rfl rfl (v_move rfl) ?_
      refine wl_v rfl rfl rfl (v_fb (o2 := 0) fa25_0 rfl rfl) ?_
      refine wl_v rfl rfl rfl (v_load one22 rfl (H.at (by repeat constructor) rfl)) ?_
      refine wl_v rfl rfl rfl (v_len Try.underlying22 rfl) ?_
      refine wl_v rfl rfl rfl (v_lss rfl rfl) ?_
      refine wl_nil ?_
      refine wc_cond rfl (fun c5 => ?_) (fun c5 => ?_)
      ·have c5p := of_decide_eq_true c5
       obtain ⟨hrw1, hrw2, hrw3, hrw4⟩ := hrow s (by omega)
       refine wc_skip ?_
       refine wc_seq ?_
       refine wc_block ?_
       refine wc_seq ?_
       refine wc_region ?_
       refine wl_v rfl rfl rfl (v_fb (o2 := 8) fa103_3 rfl rfl) ?_
       refine wl_v rfl rfl rfl (v_load one97 rfl (H.at (by repeat constructor) rfl)) ?_
       refine wl_v rfl rfl rfl (v_move rfl) ?_
       refine wl_v rfl rfl rfl (v_idx Try.underlying97 sz4 (fun h_ => (H.rrd (f := fBool) (e := 4) (A := Am) (xs := M) (by repeat constructor)).ad (by omega)) rfl rfl (by omega) (by omega)) ?_
       refine wl_v rfl rfl rfl (v_load one4 rfl ((H.rrd (f := fBool) (e := 4) (A := Am) (xs := M) (by repeat constructor)).at1bN (i := s) (by omega))) ?_
       refine wl_nil ?_
       refine wc_cond rfl (fun c6 => ?_) (fun c6 => ?_)
       ·have hrch := (hM s).1 c6
        refine wc_seq ?_
        refine wc_seq ?_
        refine wc_region ?_
        refine wl_v rfl rfl rfl (v_assign rfl) ?_
        refine wl_nil ?_
        refine wc_block ?_
        refine wc_loop (σ := Nat × Value × List Ed) (fun s' => [(2, .pointer (some ⟨b2, 0, none⟩)), (3, .pointer (some ⟨b3, 0, none⟩)), (6, .pointer (some ⟨b6, 0, none⟩)), (9, .int .i64 s), (10, .int .i64 s'.1)]) (fun s' W => ((s'.1 ≤ g.kinds.length ∧ s'.2.2.length ≤ s * 4096 + s'.1) ∧ Ek (Dp g t (Pn g t s) s s'.1 0) s'.2.2) ∧ Holds w [Blk b6 103 [.slice a.k g.kinds.length a.ck, .slice a.p g.precs.length a.cp, .slice a.r g.rules.length a.cr, .slice a.q g.prods.length a.cq, .int .i64 g.start, .slice A t.mv.length ca, .slice B t.go.length cb, s'.2.1, .slice Am t.mv.length t.mv.length], Row fEd 106 s'.2.1 s'.2.2, Row fBool 4 (.slice Am t.mv.length t.mv.length) M, Blk b3 25 [.slice A t.mv.length ca, .slice B t.go.length cb], Blk b2 53 [.slice a.k g.kinds.length a.ck, .slice a.p g.precs.length a.cp, .slice a.r g.rules.length a.cr, .slice a.q g.prods.length a.cq, .int .i64 g.start]] W) (fun s' => g.kinds.length - s'.1) (0, ev, E) (sc rfl (sc rfl (sc rfl (sc rfl (sc rfl (sn _)))))) ⟨⟨⟨Nat.zero_le _, by dsimp only; omega⟩, hEk.cong dp_first⟩, H⟩ ?_
        rintro ⟨kj, ev, E⟩ W3 ⟨⟨⟨hkj, hEl⟩, hEk⟩, H⟩
        dsimp only at hkj hEl hEk H ⊢
        refine wc_seq ?_
        refine wc_seq ?_
        refine wc_region ?_
        refine wl_v rfl rfl rfl (v_move rfl) ?_
        refine wl_v rfl rfl rfl (v_fb (o2 := 0) fa53_0 rfl rfl) ?_
        refine wl_v rfl rfl rfl (v_load one49 rfl (H.at (by repeat constructor) rfl)) ?_
        refine wl_v rfl rfl rfl (v_len Try.underlying49 rfl) ?_
        refine wl_v rfl rfl rfl (v_lss rfl rfl) ?_
        refine wl_nil ?_
        refine wc_cond rfl (fun c7 => ?_) (fun c7 => ?_)
        ·have c7p := of_decide_eq_true c7
         refine wc_skip ?_
         refine wc_seq ?_
         refine wc_block ?_
         refine wc_region ?_
         refine wl_v rfl rfl rfl (v_move rfl) ?_
         refine wl_v rfl rfl rfl (v_move rfl) ?_
         refine wl_v rfl rfl rfl (v_fb (o2 := 0) fa25_0 rfl rfl) ?_
         refine wl_v rfl rfl rfl (v_load one22 rfl (H.at (by repeat constructor) rfl)) ?_
         refine wl_v rfl rfl rfl (v_move rfl) ?_
         refine wl_v rfl rfl rfl (v_idx Try.underlying22 sz38 hx.m.ad rfl rfl (by omega) (by omega)) ?_
         obtain ⟨B81, cp81, hc81, hl81, hr81⟩ := hx.m.atSlN (i := s) (by omega)
         refine wl_v rfl rfl rfl (v_load one38 rfl (H.cell (hc81))) ?_
         refine wl_v rfl rfl rfl (v_move rfl) ?_
         refine wl_v rfl rfl rfl (v_idx Try.underlying38 sz48 hr81.ad rfl rfl (by omega) (by omega)) ?_
         refine wl_v rfl rfl rfl (v_loadN (cs := fMv.enc _) agg48 rfl rfl (fun k u hu => H.cell (hr81.atN (i := kj) (k := k) mv0 (by omega) hu))) ?_
         refine wl_call en48 rfl rfl (known_calls (g := g) (a := a) (m := ((t.mv.getD s []).getD kj mv0)) (E := E) (L := [Row fBool 4 (.slice Am t.mv.length t.mv.length) M, Blk b3 25 [.slice A t.mv.length ca, .slice B t.go.length cb], Blk b2 53 [.slice a.k g.kinds.length a.ck, .slice a.p g.precs.length a.cp, .slice a.r g.rules.length a.cr, .slice a.q g.prods.length a.cq, .int .i64 g.start]]) (H.pm (by repeat constructor)) (by omega)) ?_
         rintro _ w19 ⟨ev2, E2, rfl, hE2, Hc⟩
         refine wl_nil ?_
         refine wc_region ?_
         refine wl_v rfl rfl rfl (v_move rfl) ?_
         refine wl_v rfl rfl rfl (v_addi rfl rfl (by omega)) ?_
         refine wl_v rfl rfl rfl (v_assign rfl) ?_
         refine wl_nil ?_
         rcases hE2 with ⟨hd1, rfl⟩ | ⟨hd1, rfl⟩
         · obtain ⟨q, hq0⟩ : ∃ q : Nat, ((t.mv.getD s []).getD kj mv0).n = (q : Int) := by
             have h_ := hrw3 kj (by omega)
             unfold mvOk at h_
             exact ⟨((t.mv.getD s []).getD kj mv0).n.toNat, by omega⟩
           rw [hq0] at Hc
           exact ⟨(kj + 1, ev2, E ++ [⟨(s : Int), (kj : Int), (q : Int)⟩]), (sc rfl (sc rfl (sc rfl (sc rfl (sc rfl (sn _)))))), ⟨⟨⟨by dsimp only; omega, by dsimp only; rw [List.length_append, List.length_singleton]; omega⟩, hEk.add.cong (dp_madd (by omega) hd1 hq0)⟩, Hc.pm (by repeat constructor)⟩, by dsimp only; omega⟩
         · exact ⟨(kj + 1, ev2, E2), (sc rfl (sc rfl (sc rfl (sc rfl (sc rfl (sn _)))))), ⟨⟨⟨by dsimp only; omega, by dsimp only; omega⟩, hEk.cong (dp_mskip (by omega) hd1)⟩, Hc.pm (by repeat constructor)⟩, by dsimp only; omega⟩
        ·have c7p := of_decide_eq_false c7
         refine wc_exit ?_
         refine wc_seq ?_
         refine wc_region ?_
         refine wl_v rfl rfl rfl (v_assign rfl) ?_
         refine wl_nil ?_
         refine wc_block ?_
         refine wc_loop (σ := Nat × Value × List Ed) (fun s' => [(2, .pointer (some ⟨b2, 0, none⟩)), (3, .pointer (some ⟨b3, 0, none⟩)), (6, .pointer (some ⟨b6, 0, none⟩)), (9, .int .i64 s), (11, .int .i64 s'.1)]) (fun s' W => ((s'.1 ≤ g.rules.length ∧ s'.2.2.length ≤ s * 4096 + 1024 + s'.1) ∧ Ek (Dp g t (Pn g t s) s g.kinds.length s'.1) s'.2.2) ∧ Holds w [Blk b6 103 [.slice a.k g.kinds.length a.ck, .slice a.p g.precs.length a.cp, .slice a.r g.rules.length a.cr, .slice a.q g.prods.length a.cq, .int .i64 g.start, .slice A t.mv.length ca, .slice B t.go.length cb, s'.2.1, .slice Am t.mv.length t.mv.length], Row fEd 106 s'.2.1 s'.2.2, Row fBool 4 (.slice Am t.mv.length t.mv.length) M, Blk b3 25 [.slice A t.mv.length ca, .slice B t.go.length cb], Blk b2 53 [.slice a.k g.kinds.length a.ck, .slice a.p g.precs.length a.cp, .slice a.r g.rules.length a.cr, .slice a.q g.prods.length a.cq, .int .i64 g.start]] W) (fun s' => g.rules.length - s'.1) (0, ev, E) (sc rfl (sc rfl (sc rfl (sc rfl (sc rfl (sn _)))))) ⟨⟨⟨Nat.zero_le _, by dsimp only; omega⟩, by (have e_ : kj = g.kinds.length := (by omega); rw [← e_]; exact hEk)⟩, H⟩ ?_
         rintro ⟨kj, ev, E⟩ W4 ⟨⟨⟨hkj, hEl⟩, hEk⟩, H⟩
         dsimp only at hkj hEl hEk H ⊢
         refine wc_seq ?_
         refine wc_seq ?_
         refine wc_region ?_
         refine wl_v rfl rfl rfl (v_move rfl) ?_
         refine wl_v rfl rfl rfl (v_fb (o2 := 2) fa53_2 rfl rfl) ?_
         refine wl_v rfl rfl rfl (v_load one49 rfl (H.at (by repeat constructor) rfl)) ?_
         refine wl_v rfl rfl rfl (v_len Try.underlying49 rfl) ?_
         refine wl_v rfl rfl rfl (v_lss rfl rfl) ?_
         refine wl_nil ?_
         refine wc_cond rfl (fun c8 => ?_) (fun c8 => ?_)
         ·have c8p := of_decide_eq_true c8
          refine wc_skip ?_
          refine wc_seq ?_
          refine wc_block ?_
          refine wc_seq ?_
          refine wc_region ?_
          refine wl_v rfl rfl rfl (v_fb (o2 := 1) fa25_1 rfl rfl) ?_
          refine wl_v rfl rfl rfl (v_load one23 rfl (H.at (by repeat constructor) rfl)) ?_
          refine wl_v rfl rfl rfl (v_move rfl) ?_
          refine wl_v rfl rfl rfl (v_idx Try.underlying23 sz39 hx.g.ad rfl rfl (by omega) (by omega)) ?_
          obtain ⟨B97, cp97, hc97, hl97, hr97⟩ := hx.g.atSlN (i := s) (by omega)
          refine wl_v rfl rfl rfl (v_load one39 rfl (H.cell (hc97))) ?_
          refine wl_v rfl rfl rfl (v_move rfl) ?_
          refine wl_v rfl rfl rfl (v_idx Try.underlying39 sz3 hr97.ad rfl rfl (by omega) (by omega)) ?_
          refine wl_v rfl rfl rfl (v_load one3 rfl (H.cell (hr97.at1N (i := kj) (by omega)))) ?_
          refine wl_v rfl rfl rfl (v_geq rfl rfl) ?_
          refine wl_nil ?_
          refine wc_cond rfl (fun c9 => ?_) (fun c9 => ?_)
          ·have c9p := of_decide_eq_true c9
           obtain ⟨q, hq0⟩ : ∃ q : Nat, ((t.go.getD s []).getD kj 0) = (q : Int) := ⟨((t.go.getD s []).getD kj 0).toNat, by omega⟩
           refine wc_tree [0, 1, 2, 3, 4, 5, 6, 7, 8, 9, 10, 11, 12, 13, 14, 15, 16, 19] (fun W => Holds w [Blk b6 103 [.slice a.k g.kinds.length a.ck, .slice a.p g.precs.length a.cp, .slice a.r g.rules.length a.cr, .slice a.q g.prods.length a.cq, .int .i64 g.start, .slice A t.mv.length ca, .slice B t.go.length cb, ev, .slice Am t.mv.length t.mv.length], Blk b3 25 [.slice A t.mv.length ca, .slice B t.go.length cb], Blk b2 53 [.slice a.k g.kinds.length a.ck, .slice a.p g.precs.length a.cp, .slice a.r g.rules.length a.cr, .slice a.q g.prods.length a.cq, .int .i64 g.start]] W) mixed ?_
           have Hd := H.drew
           have HSd : Holds w [Blk b6 103 [.slice a.k g.kinds.length a.ck, .slice a.p g.precs.length a.cp, .slice a.r g.rules.length a.cr, .slice a.q g.prods.length a.cq, .int .i64 g.start, .slice A t.mv.length ca, .slice B t.go.length cb, ev, .slice Am t.mv.length t.mv.length], Blk b3 25 [.slice A t.mv.length ca, .slice B t.go.length cb], Blk b2 53 [.slice a.k g.kinds.length a.ck, .slice a.p g.precs.length a.cp, .slice a.r g.rules.length a.cr, .slice a.q g.prods.length a.cq, .int .i64 g.start]] _ := Hd.pm (by repeat constructor)
           refine wj_v (k := 0) rfl (by kernel_rfl) (fun _ _ _ h => h) HSd rfl rfl rfl (fun W HW => v_fb (o2 := 7) fa103_2 rfl rfl) ?_
           refine wj_v (k := 1) rfl (by kernel_rfl) (fun _ _ _ h => h) HSd rfl rfl rfl (fun W HW => v_load one101 rfl (HW.at (by repeat constructor) rfl)) ?_
           refine wj_v (k := 2) rfl (by kernel_rfl) (fun _ _ _ h => h) HSd rfl rfl rfl (fun W HW => v_move rfl) ?_
           refine wj_v (k := 3) rfl (by kernel_rfl) (fun _ _ _ h => h) HSd rfl rfl rfl (fun W HW => v_fb (o2 := 0) fa53_0 rfl rfl) ?_
           refine wj_v (k := 4) rfl (by kernel_rfl) (fun _ _ _ h => h) HSd rfl rfl rfl (fun W HW => v_load one49 rfl (HW.at (by repeat constructor) rfl)) ?_
           refine wj_v (k := 5) rfl (by kernel_rfl) (fun _ _ _ h => h) HSd rfl rfl rfl (fun W HW => v_len Try.underlying49 rfl) ?_
           refine wj_v (k := 6) rfl (by kernel_rfl) (fun _ _ _ h => h) HSd rfl rfl rfl (fun W HW => v_move rfl) ?_
           refine wj_v (k := 7) rfl (by kernel_rfl) (fun _ _ _ h => h) HSd rfl rfl rfl (fun W HW => v_addi rfl rfl (by omega)) ?_
           refine wj_v (k := 8) rfl (by kernel_rfl) (fun _ _ _ h => h) HSd rfl rfl rfl (fun W HW => v_fb (o2 := 1) fa25_1 rfl rfl) ?_
           refine wj_v (k := 9) rfl (by kernel_rfl) (fun _ _ _ h => h) HSd rfl rfl rfl (fun W HW => v_load one23 rfl (HW.at (by repeat constructor) rfl)) ?_
           refine wj_v (k := 10) rfl (by kernel_rfl) (fun _ _ _ h => h) HSd rfl rfl rfl (fun W HW => v_move rfl) ?_
           refine wj_v (k := 11) rfl (by kernel_rfl) (fun _ _ _ h => h) HSd rfl rfl rfl (fun W HW => v_idx Try.underlying23 sz39 hx.g.ad rfl rfl (by omega) (by omega)) ?_
           obtain ⟨B114, cp114, hc114, hl114, hr114⟩ := hx.g.atSlN (i := s) (by omega)
           refine wj_v (k := 12) rfl (by kernel_rfl) (fun _ _ _ h => h) HSd rfl rfl rfl (fun W HW => v_load one39 rfl (HW.cell (hc114))) ?_
           refine wj_v (k := 13) rfl (by kernel_rfl) (fun _ _ _ h => h) HSd rfl rfl rfl (fun W HW => v_move rfl) ?_
           refine wj_v (k := 14) rfl (by kernel_rfl) (fun _ _ _ h => h) HSd rfl rfl rfl (fun W HW => v_idx Try.underlying39 sz3 hr114.ad rfl rfl (by omega) (by omega)) ?_
           refine wj_v (k := 15) rfl (by kernel_rfl) (fun _ _ _ h => h) HSd rfl rfl rfl (fun W HW => v_load one3 rfl (HW.cell (hr114.at1N (i := kj) (by omega)))) ?_
           refine wj_v (k := 16) rfl (by kernel_rfl) (fun _ _ _ h => h) HSd rfl rfl rfl (fun W HW => v_bld ba106 rfl (by repeat constructor)) ?_
           refine wj_t (k := 17) rfl (by kernel_rfl) ?_
           refine wl_slit (v := .agg #[.int .i64 0, .int .i64 0, .int .i64 0]) (z := [.int .i64 0, .int .i64 0, .int .i64 0]) (cs := [.int .i64 s, .int .i64 ((g.kinds.length : Int) + kj), .int .i64 ((t.go.getD s []).getD kj 0)]) (sz := 3) Hd rfl Try.underlying101 sz106 zv106 (by decide) (by decide) (by kernel_rfl) rfl (by repeat constructor) ?_
           intro b119 w20 hb119 H20 hs20
           have HS21 : Holds w [Blk b6 103 [.slice a.k g.kinds.length a.ck, .slice a.p g.precs.length a.cp, .slice a.r g.rules.length a.cr, .slice a.q g.prods.length a.cq, .int .i64 g.start, .slice A t.mv.length ca, .slice B t.go.length cb, ev, .slice Am t.mv.length t.mv.length], Blk b3 25 [.slice A t.mv.length ca, .slice B t.go.length cb], Blk b2 53 [.slice a.k g.kinds.length a.ck, .slice a.p g.precs.length a.cp, .slice a.r g.rules.length a.cr, .slice a.q g.prods.length a.cq, .int .i64 g.start]] _ := H20.pm (by repeat constructor)
           refine wl_nil (tn ⟨fun _ => HS21, ?_⟩)
           refine wj_t (k := 18) rfl (by kernel_rfl) ?_
           refine wl_app1 (f := fEd) (xs := E) (y' := (⟨s, (g.kinds.length : Int) + kj, ((t.go.getD s []).getD kj 0)⟩ : Ed)) H20 (fun v' => (by repeat constructor)) (by repeat constructor) rfl Try.underlying101 info106 rfl (by decide) rfl rfl rfl (by omega) (by decide) ?_
           intro A120 z120 w22 H22 hs22
           have HS23 : Holds w [Blk b6 103 [.slice a.k g.kinds.length a.ck, .slice a.p g.precs.length a.cp, .slice a.r g.rules.length a.cr, .slice a.q g.prods.length a.cq, .int .i64 g.start, .slice A t.mv.length ca, .slice B t.go.length cb, ev, .slice Am t.mv.length t.mv.length], Blk b3 25 [.slice A t.mv.length ca, .slice B t.go.length cb], Blk b2 53 [.slice a.k g.kinds.length a.ck, .slice a.p g.precs.length a.cp, .slice a.r g.rules.length a.cr, .slice a.q g.prods.length a.cq, .int .i64 g.start]] _ := H22.pm (by repeat constructor)
           refine wl_nil (tn ⟨fun _ => HS23, ?_⟩)
           refine wj_v (k := 19) rfl (by kernel_rfl) (fun _ _ _ h => h) HS23 rfl rfl rfl (fun W HW => v_fb (o2 := 7) fa103_2 rfl rfl) ?_
           refine wj_t (k := 20) rfl (by kernel_rfl) ?_
           refine wl_store (vs := [_]) H22 (by repeat constructor) sz101 rfl rfl rfl rfl rfl (by (repeat constructor)) ?_
           intro w24 H25 hw24
           refine wl_nil (tn ⟨fun hlt => absurd hlt (by rw [show allH _ _ _ = true by kernel_rfl]; simp), ?_⟩)
           refine wj_done (by kernel_rfl) ?_
           refine wc_region ?_
           refine wl_v rfl rfl rfl (v_move rfl) ?_
           refine wl_v rfl rfl rfl (v_addi rfl rfl (by omega)) ?_
           refine wl_v rfl rfl rfl (v_assign rfl) ?_
           refine wl_nil ?_
           first
             | (have q_ := hq0
                rw [hq0] at H25
                exact ⟨(kj + 1, _, E ++ [⟨(s : Int), (g.kinds.length : Int) + kj, (q : Int)⟩]), (sc rfl (sc rfl (sc rfl (sc rfl (sc rfl (sn _)))))), ⟨⟨⟨by dsimp only; omega, by dsimp only; rw [List.length_append, List.length_singleton]; omega⟩, hEk.add.cong (dp_gadd (by omega) hq0)⟩, H25.pm (by repeat constructor)⟩, by dsimp only; omega⟩)
             | exact ⟨(kj + 1, ev, E), (sc rfl (sc rfl (sc rfl (sc rfl (sc rfl (sn _)))))), ⟨⟨⟨by dsimp only; omega, by dsimp only; omega⟩, hEk.cong (dp_gskip (by omega) (by omega))⟩, H25.pm (by repeat constructor)⟩, by dsimp only; omega⟩
          ·have c9p := of_decide_eq_false c9
           refine wc_skip ?_
           refine wc_region ?_
           refine wl_v rfl rfl rfl (v_move rfl) ?_
           refine wl_v rfl rfl rfl (v_addi rfl rfl (by omega)) ?_
           refine wl_v rfl rfl rfl (v_assign rfl) ?_
           refine wl_nil ?_
           first
             | (have q_ := hq0
                rw [hq0] at H
                exact ⟨(kj + 1, _, E ++ [⟨(s : Int), (g.kinds.length : Int) + kj, (q : Int)⟩]), (sc rfl (sc rfl (sc rfl (sc rfl (sc rfl (sn _)))))), ⟨⟨⟨by dsimp only; omega, by dsimp only; rw [List.length_append, List.length_singleton]; omega⟩, hEk.add.cong (dp_gadd (by omega) hq0)⟩, H.pm (by repeat constructor)⟩, by dsimp only; omega⟩)
             | exact ⟨(kj + 1, ev, E), (sc rfl (sc rfl (sc rfl (sc rfl (sc rfl (sn _)))))), ⟨⟨⟨by dsimp only; omega, by dsimp only; omega⟩, hEk.cong (dp_gskip (by omega) (by omega))⟩, H.pm (by repeat constructor)⟩, by dsimp only; omega⟩
         ·have c8p := of_decide_eq_false c8
          refine wc_exit ?_
          refine wc_region ?_
          refine wl_v rfl rfl rfl (v_move rfl) ?_
          refine wl_v rfl rfl rfl (v_addi rfl rfl (by omega)) ?_
          refine wl_v rfl rfl rfl (v_assign rfl) ?_
          refine wl_nil ?_
          first
            | (have q_ := hrch
               exact ⟨(s + 1, ev, E), (sc rfl (sc rfl (sc rfl (sc rfl (sn _))))), ⟨⟨⟨by dsimp only; omega, by dsimp only; omega⟩, hEk.cong (dp_last (by omega) (by omega) hrch)⟩, H.pm (by repeat constructor)⟩, by dsimp only; omega⟩)
            | exact ⟨(s + 1, ev, E), (sc rfl (sc rfl (sc rfl (sc rfl (sn _))))), ⟨⟨⟨by dsimp only; omega, by dsimp only; omega⟩, hEk.cong (dq_skip fun h_ => absurd (((hM s).2 h_).symm.trans c6) Bool.noConfusion)⟩, H.pm (by repeat constructor)⟩, by dsimp only; omega⟩
       ·refine wc_skip ?_
        refine wc_region ?_
        refine wl_v rfl rfl rfl (v_move rfl) ?_
        refine wl_v rfl rfl rfl (v_addi rfl rfl (by omega)) ?_
        refine wl_v rfl rfl rfl (v_assign rfl) ?_
        refine wl_nil ?_
        first
          | (have q_ := hrch
             exact ⟨(s + 1, ev, E), (sc rfl (sc rfl (sc rfl (sc rfl (sn _))))), ⟨⟨⟨by dsimp only; omega, by dsimp only; omega⟩, hEk.cong (dp_last (by omega) (by omega) hrch)⟩, H.pm (by repeat constructor)⟩, by dsimp only; omega⟩)
          | exact ⟨(s + 1, ev, E), (sc rfl (sc rfl (sc rfl (sc rfl (sn _))))), ⟨⟨⟨by dsimp only; omega, by dsimp only; omega⟩, hEk.cong (dq_skip fun h_ => absurd (((hM s).2 h_).symm.trans c6) Bool.noConfusion)⟩, H.pm (by repeat constructor)⟩, by dsimp only; omega⟩
      ·have c5p := of_decide_eq_false c5
       have hEd := hEk.fin hf (by omega)
       obtain ⟨Ae, ce, rfl⟩ := H.rform (f := fEd) (e := 106) (v := ev) (xs := E) (by repeat constructor)
       refine wc_exit ?_
       refine wc_seq ?_
       refine wc_seq ?_
       refine wc_region ?_
       refine wl_v rfl rfl rfl (v_assign rfl) ?_
       refine wl_nil ?_
       refine wc_block ?_
       refine wc_loop (σ := Nat) (fun s' => [(2, .pointer (some ⟨b2, 0, none⟩)), (3, .pointer (some ⟨b3, 0, none⟩)), (6, .pointer (some ⟨b6, 0, none⟩)), (12, .int .i64 s')]) (fun s' W => (s' ≤ t.mv.length ∧ ∀ s, s < s' → Rch g t s → StOk g t s) ∧ Holds w [Blk b6 103 [.slice a.k g.kinds.length a.ck, .slice a.p g.precs.length a.cp, .slice a.r g.rules.length a.cr, .slice a.q g.prods.length a.cq, .int .i64 g.start, .slice A t.mv.length ca, .slice B t.go.length cb, (.slice Ae E.length ce), .slice Am t.mv.length t.mv.length], Row fEd 106 (.slice Ae E.length ce) E, Row fBool 4 (.slice Am t.mv.length t.mv.length) M, Blk b3 25 [.slice A t.mv.length ca, .slice B t.go.length cb], Blk b2 53 [.slice a.k g.kinds.length a.ck, .slice a.p g.precs.length a.cp, .slice a.r g.rules.length a.cr, .slice a.q g.prods.length a.cq, .int .i64 g.start]] W) (fun s' => t.mv.length - s') 0 (sc rfl (sc rfl (sc rfl (sc rfl (sn _))))) ⟨⟨Nat.zero_le _, upto_zero⟩, H⟩ ?_
       rintro i W5 ⟨⟨hi, ha⟩, H⟩
       refine wc_seq ?_
       refine wc_seq ?_
       refine wc_region ?_
       refine wl_v rfl rfl rfl (v_move rfl) ?_
       refine wl_v rfl rfl rfl (v_fb (o2 := 0) fa25_0 rfl rfl) ?_
       refine wl_v rfl rfl rfl (v_load one22 rfl (H.at (by repeat constructor) rfl)) ?_
       refine wl_v rfl rfl rfl (v_len Try.underlying22 rfl) ?_
       refine wl_v rfl rfl rfl (v_lss rfl rfl) ?_
       refine wl_nil ?_
       refine wc_cond rfl (fun c10 => ?_) (fun c10 => ?_)
       ·have c10p := of_decide_eq_true c10
        refine wc_skip ?_
        refine wc_seq ?_
        refine wc_block ?_
        refine wc_seq ?_
        refine wc_region ?_
        refine wl_v rfl rfl rfl (v_fb (o2 := 8) fa103_3 rfl rfl) ?_
        refine wl_v rfl rfl rfl (v_load one97 rfl (H.at (by repeat constructor) rfl)) ?_
        refine wl_v rfl rfl rfl (v_move rfl) ?_
        refine wl_v rfl rfl rfl (v_idx Try.underlying97 sz4 (fun h_ => (H.rrd (f := fBool) (e := 4) (A := Am) (xs := M) (by repeat constructor)).ad (by omega)) rfl rfl (by omega) (by omega)) ?_
        refine wl_v rfl rfl rfl (v_load one4 rfl ((H.rrd (f := fBool) (e := 4) (A := Am) (xs := M) (by repeat constructor)).at1bN (i := i) (by omega))) ?_
        refine wl_v rfl rfl rfl (v_move rfl) ?_
        refine wl_guard rfl rfl rfl (fun g134 => ?_) (fun g134 => ?_)
        ·refine wl_v rfl rfl rfl (v_move rfl) ?_
         refine wl_on' rfl rfl g134 ?_
         refine wl_call en49 rfl rfl (rright_calls (g := g) (a := a) (s := i) (ce := ce) (mvv := .slice Am t.mv.length t.mv.length) (fun j_ v_ hv_ => H.at (off := j_) (by repeat constructor) hv_) (hx.below H.old) hf (H.rrd (f := fEd) (e := 106) (A := Ae) (xs := E) (by repeat constructor)) hEd (by omega) (by omega) (hr.below H.old) hG hk) ?_
         rintro _ w27 ⟨rfl, Hc⟩
         have H28 := H.call0 Hc
         refine wl_on' rfl rfl g134 ?_
         refine wl_v rfl rfl rfl (v_not rfl) ?_
         refine wl_v rfl rfl rfl (v_pick_t rfl g134 rfl) ?_
         refine wl_nil ?_
         refine wc_cond rfl (fun c11 => ?_) (fun c11 => ?_)
         ·have c11p := of_n_t c11
          refine wc_seq ?_
          refine wc_region ?_
          refine wl_v rfl rfl rfl (v_move rfl) ?_
          refine wl_v rfl rfl rfl (v_assign rfl) ?_
          refine wl_v rfl rfl rfl (v_assign rfl) ?_
          refine wl_nil ?_
          refine wc_ret ?_
          first
            | exact ⟨_, res2 rfl rfl rfl, _, _, rfl, .inl ⟨hG, rfl, rfl⟩, H28.pm (Pm.nil _)⟩
            | exact ⟨_, res2 rfl rfl rfl, _, _, rfl, .inr (.inl ⟨hG, c1p, rfl, rfl⟩), H28.pm (Pm.nil _)⟩
            | exact ⟨_, res2 rfl rfl rfl, _, _, rfl, .inr (.inr ⟨hG, c1p, .inl ⟨i, rfl, rfl, by omega, ⟨(hM i).1 g134, of_ndec (of_n_t c11)⟩, ha⟩⟩), H28.pm (Pm.nil _)⟩
            | exact ⟨_, res2 rfl rfl rfl, _, _, rfl, .inr (.inr ⟨hG, c1p, .inr ⟨rfl, rfl, fun s hs => ha s (by omega)⟩⟩), H28.pm (Pm.nil _)⟩
         ·have c11p := of_n_f c11
          refine wc_skip ?_
          refine wc_region ?_
          refine wl_v rfl rfl rfl (v_move rfl) ?_
          refine wl_v rfl rfl rfl (v_addi rfl rfl (by omega)) ?_
          refine wl_v rfl rfl rfl (v_assign rfl) ?_
          refine wl_nil ?_
          first
            | (have q_ := c11
               exact ⟨i + 1, (sc rfl (sc rfl (sc rfl (sc rfl (sn _))))), ⟨⟨by omega, upto_succ ha fun _ => of_dec (of_n_f c11)⟩, H28.pm (by repeat constructor)⟩, by omega⟩)
            | exact ⟨i + 1, (sc rfl (sc rfl (sc rfl (sc rfl (sn _))))), ⟨⟨by omega, upto_succ ha fun h_ => absurd (((hM i).2 h_).symm.trans g134) Bool.noConfusion⟩, H28.pm (by repeat constructor)⟩, by omega⟩
        ·refine wl_off rfl rfl g134 rfl ?_
         refine wl_off rfl rfl g134 rfl ?_
         refine wl_v rfl rfl rfl (v_pick_f rfl g134 rfl) ?_
         refine wl_nil ?_
         refine wc_cond_f rfl ?_
         refine wc_skip ?_
         refine wc_region ?_
         refine wl_v rfl rfl rfl (v_move rfl) ?_
         refine wl_v rfl rfl rfl (v_addi rfl rfl (by omega)) ?_
         refine wl_v rfl rfl rfl (v_assign rfl) ?_
         refine wl_nil ?_
         first
           | (have q_ := c11
              exact ⟨i + 1, (sc rfl (sc rfl (sc rfl (sc rfl (sn _))))), ⟨⟨by omega, upto_succ ha fun _ => of_dec (of_n_f c11)⟩, H.pm (by repeat constructor)⟩, by omega⟩)
           | exact ⟨i + 1, (sc rfl (sc rfl (sc rfl (sc rfl (sn _))))), ⟨⟨by omega, upto_succ ha fun h_ => absurd (((hM i).2 h_).symm.trans g134) Bool.noConfusion⟩, H.pm (by repeat constructor)⟩, by omega⟩
       ·have c10p := of_decide_eq_false c10
        refine wc_exit ?_
        refine wc_seq ?_
        refine wc_region ?_
        refine wl_v rfl rfl rfl (v_assign rfl) ?_
        refine wl_v rfl rfl rfl (v_assign rfl) ?_
        refine wl_nil ?_
        refine wc_ret ?_
        first
          | exact ⟨_, res2 rfl rfl rfl, _, _, rfl, .inl ⟨hG, rfl, rfl⟩, H.pm (Pm.nil _)⟩
          | exact ⟨_, res2 rfl rfl rfl, _, _, rfl, .inr (.inl ⟨hG, c1p, rfl, rfl⟩), H.pm (Pm.nil _)⟩
          | exact ⟨_, res2 rfl rfl rfl, _, _, rfl, .inr (.inr ⟨hG, c1p, .inl ⟨i, rfl, rfl, by omega, ⟨(hM i).1 g134, of_ndec (of_n_t c11)⟩, ha⟩⟩), H.pm (Pm.nil _)⟩
          | exact ⟨_, res2 rfl rfl rfl, _, _, rfl, .inr (.inr ⟨hG, c1p, .inr ⟨rfl, rfl, fun s hs => ha s (by omega)⟩⟩), H.pm (Pm.nil _)⟩
    ·refine wl_alloc (cs := [.slice none 0 0, .slice none 0 0, .slice none 0 0, .slice none 0 0, .int .i64 0, .slice none 0 0, .slice none 0 0, .slice none 0 0, .slice none 0 0]) Hd rfl zv103 rfl ?_
     intro b6 w29 hb6 H30
     have HS31 : Holds w [Blk b3 25 [.slice A t.mv.length ca, .slice B t.go.length cb], Blk b2 53 [.slice a.k g.kinds.length a.ck, .slice a.p g.precs.length a.cp, .slice a.r g.rules.length a.cr, .slice a.q g.prods.length a.cq, .int .i64 g.start]] _ := H30.pm (by repeat constructor)
     refine wl_nil (tn ⟨fun _ => HS31, ?_⟩)
     refine wj_t (k := 5) rfl (by kernel_rfl) ?_
     refine wl_make (f := fBool) (z' := false) H30 rfl Try.underlying97 info4 rfl (by decide) rfl rfl (by omega) (by omega) (by decide) ?_
     rw [Int.toNat_natCast]
     intro Am w32 H32 hs32
     have HS33 : Holds w [Blk b3 25 [.slice A t.mv.length ca, .slice B t.go.length cb], Blk b2 53 [.slice a.k g.kinds.length a.ck, .slice a.p g.precs.length a.cp, .slice a.r g.rules.length a.cr, .slice a.q g.prods.length a.cq, .int .i64 g.start]] _ := H32.pm (by repeat constructor)
     refine wl_nil (tn ⟨fun _ => HS33, ?_⟩)
     refine wj_v (k := 6) rfl (by kernel_rfl) (fun _ _ _ h => h) HS33 rfl rfl rfl (fun W HW => v_bld ba103 rfl (by repeat constructor)) ?_
     refine wj_t (k := 8) rfl (by kernel_rfl) ?_
     refine wl_store (vs := [_, _, _, _, _, _, _, _, _]) H32 (by repeat constructor) sz103 rfl rfl rfl rfl rfl (by (repeat constructor)) ?_
     intro w34 H35 hw34
     refine wl_nil (tn ⟨fun hlt => absurd hlt (by rw [show allH _ _ _ = true by kernel_rfl]; simp), ?_⟩)
     refine wj_done (by kernel_rfl) ?_
     refine wc_seq ?_
     refine wc_region ?_
     refine wl_v rfl rfl rfl (v_fb (o2 := 8) fa103_3 rfl rfl) ?_
     refine wl_v rfl rfl rfl (v_load one97 rfl (H35.at (by repeat constructor) rfl)) ?_
     refine wl_v rfl rfl rfl (v_idx Try.underlying97 sz4 (fun h_ => (H35.rrd (f := fBool) (e := 4) (A := Am) (xs := List.replicate t.mv.length false) (by repeat constructor)).ad (by rw [List.length_replicate]; exact h_)) rfl rfl (by omega) (by omega)) ?_
     refine wl_storeR (f := fBool) (xs := List.replicate t.mv.length false) (i := (0 : Int)) (x' := true) H35 (by repeat constructor) sz4 rfl rfl rfl (by omega) (by rw [List.length_replicate]; omega) ?_
     intro w37 H37
     refine wl_nil ?_
     refine wc_seq ?_
     refine wc_seq ?_
     refine wc_region ?_
     refine wl_v rfl rfl rfl (v_assign rfl) ?_
     refine wl_nil ?_
     refine wc_block ?_
     refine wc_loop (σ := List Bool × Bool) (fun s' => [(2, .pointer (some ⟨b2, 0, none⟩)), (3, .pointer (some ⟨b3, 0, none⟩)), (6, .pointer (some ⟨b6, 0, none⟩)), (7, .bool s'.2)]) (fun s' W => ((s'.1.length = t.mv.length ∧ s'.1.getD 0 false = true) ∧ (∀ q : Nat, s'.1.getD q false = true → Rch g t q) ∧ (s'.2 = false → ∀ q : Nat, s'.1.getD q false = true ↔ Rch g t q)) ∧ Holds w [Blk b6 103 [.slice a.k g.kinds.length a.ck, .slice a.p g.precs.length a.cp, .slice a.r g.rules.length a.cr, .slice a.q g.prods.length a.cq, .int .i64 g.start, .slice A t.mv.length ca, .slice B t.go.length cb, (.slice none 0 0), .slice Am t.mv.length t.mv.length], Row fBool 4 (.slice Am t.mv.length t.mv.length) s'.1, Blk b3 25 [.slice A t.mv.length ca, .slice B t.go.length cb], Blk b2 53 [.slice a.k g.kinds.length a.ck, .slice a.p g.precs.length a.cp, .slice a.r g.rules.length a.cr, .slice a.q g.prods.length a.cq, .int .i64 g.start]] W) (fun s' => 2 * cntF s'.1 + (if s'.2 then 1 else 0)) ((List.replicate t.mv.length false).set 0 true, true) (sc rfl (sc rfl (sc rfl (sc rfl (sn _))))) ⟨⟨⟨by simp, by rw [set_get (by rw [List.length_replicate]; omega)]; rfl⟩, fun q hq => by (rw [set_get (by rw [List.length_replicate]; omega)] at hq; split at hq; (rename_i e; exact e ▸ .zero); (rw [List.getD_eq_getElem?_getD, List.getElem?_replicate] at hq; split at hq <;> cases hq)), fun h => absurd h Bool.noConfusion⟩, H37.pm (by repeat constructor)⟩ ?_
     rintro ⟨M, fr0⟩ W0 ⟨⟨⟨hMl, hM0⟩, hMr, hMd⟩, H⟩
     dsimp only at hMl hM0 hMr hMd H ⊢
     refine wc_seq ?_
     refine wc_seq ?_
     refine wc_region ?_
     refine wl_v rfl rfl rfl (v_move rfl) ?_
     refine wl_nil ?_
     refine wc_cond rfl (fun c2 => ?_) (fun c2 => ?_)
     ·obtain ⟨M00, hM00⟩ : ∃ M00, M00 = M := ⟨_, rfl⟩
      have hR0 : RdI g t M00 0 M false := ⟨hMl, hM0, hMr, fun _ => ⟨hM00.symm, fun s hs => absurd hs (by omega)⟩, fun h => absurd h Bool.noConfusion⟩
      refine wc_skip ?_
      refine wc_block ?_
      refine wc_seq ?_
      refine wc_region ?_
      refine wl_v rfl rfl rfl (v_assign rfl) ?_
      refine wl_nil ?_
      refine wc_seq ?_
      refine wc_region ?_
      refine wl_v rfl rfl rfl (v_assign rfl) ?_
      refine wl_nil ?_
      refine wc_block ?_
      refine wc_loop (σ := Nat × List Bool × Bool) (fun s' => [(2, .pointer (some ⟨b2, 0, none⟩)), (3, .pointer (some ⟨b3, 0, none⟩)), (6, .pointer (some ⟨b6, 0, none⟩)), (7, .bool s'.2.2), (8, .int .i64 s'.1)]) (fun s' W => (s'.1 ≤ t.mv.length ∧ RdI g t M00 s'.1 s'.2.1 s'.2.2) ∧ Holds w [Blk b6 103 [.slice a.k g.kinds.length a.ck, .slice a.p g.precs.length a.cp, .slice a.r g.rules.length a.cr, .slice a.q g.prods.length a.cq, .int .i64 g.start, .slice A t.mv.length ca, .slice B t.go.length cb, (.slice none 0 0), .slice Am t.mv.length t.mv.length], Row fBool 4 (.slice Am t.mv.length t.mv.length) s'.2.1, Blk b3 25 [.slice A t.mv.length ca, .slice B t.go.length cb], Blk b2 53 [.slice a.k g.kinds.length a.ck, .slice a.p g.precs.length a.cp, .slice a.r g.rules.length a.cr, .slice a.q g.prods.length a.cq, .int .i64 g.start]] W) (fun s' => t.mv.length - s'.1) (0, M, false) (sc rfl (sc rfl (sc rfl (sc rfl (sc rfl (sn _)))))) ⟨⟨Nat.zero_le _, hR0⟩, H⟩ ?_
      rintro ⟨i, M, fr⟩ W1 ⟨⟨hi, hR⟩, H⟩
      dsimp only at hi hR H ⊢
      have hMl := hR.len
      refine wc_seq ?_
      refine wc_seq ?_
      refine wc_region ?_
      refine wl_v rfl rfl rfl (v_move rfl) ?_
      refine wl_v rfl rfl rfl (v_fb (o2 := 0) fa25_0 rfl rfl) ?_
      refine wl_v rfl rfl rfl (v_load one22 rfl (H.at (by repeat constructor) rfl)) ?_
      refine wl_v rfl rfl rfl (v_len Try.underlying22 rfl) ?_
      refine wl_v rfl rfl rfl (v_lss rfl rfl) ?_
      refine wl_nil ?_
      refine wc_cond rfl (fun c3 => ?_) (fun c3 => ?_)
      ·have c3p := of_decide_eq_true c3
       refine wc_skip ?_
       refine wc_seq ?_
       refine wc_block ?_
       refine wc_seq ?_
       refine wc_region ?_
       refine wl_v rfl rfl rfl (v_fb (o2 := 8) fa103_3 rfl rfl) ?_
       refine wl_v rfl rfl rfl (v_load one97 rfl (H.at (by repeat constructor) rfl)) ?_
       refine wl_v rfl rfl rfl (v_move rfl) ?_
       refine wl_v rfl rfl rfl (v_idx Try.underlying97 sz4 (fun h_ => (H.rrd (f := fBool) (e := 4) (A := Am) (xs := M) (by repeat constructor)).ad (by omega)) rfl rfl (by omega) (by omega)) ?_
       refine wl_v rfl rfl rfl (v_load one4 rfl ((H.rrd (f := fBool) (e := 4) (A := Am) (xs := M) (by repeat constructor)).at1bN (i := i) (by omega))) ?_
       refine wl_nil ?_
       refine wc_cond rfl (fun c4 => ?_) (fun c4 => ?_)
       ·refine wc_region ?_
        refine wl_v rfl rfl rfl (v_move rfl) ?_
        refine wl_call en47 rfl rfl (from_calls (g := g) (a := a) (s := i) (M0 := M) (L := [Blk b3 25 [.slice A t.mv.length ca, .slice B t.go.length cb], Blk b2 53 [.slice a.k g.kinds.length a.ck, .slice a.p g.precs.length a.cp, .slice a.r g.rules.length a.cr, .slice a.q g.prods.length a.cq, .int .i64 g.start]]) (H.pm (by repeat constructor)) hx hf (by omega) hMl hk) ?_
        rintro _ w38 ⟨M2, fr2, rfl, hF, Hc⟩
        refine wl_v rfl rfl rfl (v_move rfl) ?_
        refine wl_guard rfl rfl rfl (fun g53 => ?_) (fun g53 => ?_)
        ·refine wl_v rfl rfl rfl (v_move rfl) ?_
         refine wl_v rfl rfl rfl (v_pick_f rfl g53 rfl) ?_
         refine wl_v rfl rfl rfl (v_assign rfl) ?_
         refine wl_nil ?_
         refine wc_region ?_
         refine wl_v rfl rfl rfl (v_move rfl) ?_
         refine wl_v rfl rfl rfl (v_addi rfl rfl (by omega)) ?_
         refine wl_v rfl rfl rfl (v_assign rfl) ?_
         refine wl_nil ?_
         first
           | (have q_ := g53
              exact ⟨(i + 1, M2, _), (sc rfl (sc rfl (sc rfl (sc rfl (sc rfl (sn _)))))), ⟨⟨by dsimp only; omega, hR.next (by have h_ := c4; exact h_) hF (by rw [g53]; rfl)⟩, Hc.pm (by repeat constructor)⟩, by dsimp only; omega⟩)
           | exact ⟨(i + 1, M, fr), (sc rfl (sc rfl (sc rfl (sc rfl (sc rfl (sn _)))))), ⟨⟨by dsimp only; omega, hR.skip (by have h_ := c4; exact h_)⟩, Hc.pm (by repeat constructor)⟩, by dsimp only; omega⟩
        ·refine wl_v rfl rfl rfl (v_pick_t rfl g53 rfl) ?_
         refine wl_v rfl rfl rfl (v_assign rfl) ?_
         refine wl_nil ?_
         refine wc_region ?_
         refine wl_v rfl rfl rfl (v_move rfl) ?_
         refine wl_v rfl rfl rfl (v_addi rfl rfl (by omega)) ?_
         refine wl_v rfl rfl rfl (v_assign rfl) ?_
         refine wl_nil ?_
         first
           | (have q_ := g53
              exact ⟨(i + 1, M2, _), (sc rfl (sc rfl (sc rfl (sc rfl (sc rfl (sn _)))))), ⟨⟨by dsimp only; omega, hR.next (by have h_ := c4; exact h_) hF (by rw [g53]; rfl)⟩, Hc.pm (by repeat constructor)⟩, by dsimp only; omega⟩)
           | exact ⟨(i + 1, M, fr), (sc rfl (sc rfl (sc rfl (sc rfl (sc rfl (sn _)))))), ⟨⟨by dsimp only; omega, hR.skip (by have h_ := c4; exact h_)⟩, Hc.pm (by repeat constructor)⟩, by dsimp only; omega⟩
       ·refine wc_skip ?_
        refine wc_region ?_
        refine wl_v rfl rfl rfl (v_move rfl) ?_
        refine wl_v rfl rfl rfl (v_addi rfl rfl (by omega)) ?_
        refine wl_v rfl rfl rfl (v_assign rfl) ?_
        refine wl_nil ?_
        first
          | (have q_ := g53
             exact ⟨(i + 1, M2, _), (sc rfl (sc rfl (sc rfl (sc rfl (sc rfl (sn _)))))), ⟨⟨by dsimp only; omega, hR.next (by have h_ := c4; exact h_) hF (by rw [g53]; rfl)⟩, H.pm (by repeat constructor)⟩, by dsimp only; omega⟩)
          | exact ⟨(i + 1, M, fr), (sc rfl (sc rfl (sc rfl (sc rfl (sc rfl (sn _)))))), ⟨⟨by dsimp only; omega, hR.skip (by have h_ := c4; exact h_)⟩, H.pm (by repeat constructor)⟩, by dsimp only; omega⟩
      ·have c3p := of_decide_eq_false c3
       refine wc_exit ?_
       refine ⟨(M, fr), (sc rfl (sc rfl (sc rfl (sc rfl (sn _))))), ⟨⟨⟨hMl, hR.h0⟩, hR.rch, fun e => ?_⟩, H⟩, ?_⟩
       · have e' : fr = false := e
         subst e'
         exact hR.done (by omega) hf
       · rw [show fr0 = true from c2]
         dsimp only
         cases hfr : fr
         · have h_ := (hR.cl hfr).1
           rw [h_, hM00]
           simp
         · have h_ := hR.more hfr
           rw [hM00] at h_
           rw [if_pos rfl]
           omega
     ·have hM := hMd c2
      refine wc_exit ?_
      refine wc_seq ?_
      refine wc_seq ?_
      refine wc_region ?_
      refine wl_v rfl rfl rfl (v_assign rfl) ?_
      refine wl_nil ?_
      refine wc_block ?_
      refine wc_loop (σ := Nat × Value × List Ed) (fun s' => [(2, .pointer (some ⟨b2, 0, none⟩)), (3, .pointer (some ⟨b3, 0, none⟩)), (6, .pointer (some ⟨b6, 0, none⟩)), (9, .int .i64 s'.1)]) (fun s' W => ((s'.1 ≤ t.mv.length ∧ s'.2.2.length ≤ s'.1 * 4096) ∧ Ek (Dq g t (Pn g t s'.1)) s'.2.2) ∧ Holds w [Blk b6 103 [.slice a.k g.kinds.length a.ck, .slice a.p g.precs.length a.cp, .slice a.r g.rules.length a.cr, .slice a.q g.prods.length a.cq, .int .i64 g.start, .slice A t.mv.length ca, .slice B t.go.length cb, s'.2.1, .slice Am t.mv.length t.mv.length], Row fEd 106 s'.2.1 s'.2.2, Row fBool 4 (.slice Am t.mv.length t.mv.length) M, Blk b3 25 [.slice A t.mv.length ca, .slice B t.go.length cb], Blk b2 53 [.slice a.k g.kinds.length a.ck, .slice a.p g.precs.length a.cp, .slice a.r g.rules.length a.cr, .slice a.q g.prods.length a.cq, .int .i64 g.start]] W) (fun s' => t.mv.length - s'.1) (0, .slice none 0 0, []) (sc rfl (sc rfl (sc rfl (sc rfl (sn _))))) ⟨⟨⟨Nat.zero_le _, Nat.zero_le _⟩, Ek.nil.cong dq_nil⟩, (H.nilrow 106 3).pm (by repeat constructor)⟩ ?_
      rintro ⟨s, ev, E⟩ W2 ⟨⟨⟨hs, hEl⟩, hEk⟩, H⟩
      dsimp only at hs hEl hEk H ⊢
      refine wc_seq ?_
      refine wc_seq ?_
      refine wc_region ?_
      refine wl_v rfl rfl rfl (v_move rfl) ?_
      refine wl_v rfl rfl rfl (v_fb (o2 := 0) fa25_0 rfl rfl) ?_
      refine wl_v rfl rfl rfl (v_load one22 rfl (H.at (by repeat constructor) rfl)) ?_
      refine wl_v rfl rfl rfl (v_len Try.underlying22 rfl) ?_
      refine wl_v rfl rfl rfl (v_lss rfl rfl) ?_
      refine wl_nil ?_
      refine wc_cond rfl (fun c5 => ?_) (fun c5 => ?_)
      ·have c5p := of_decide_eq_true c5
       obtain ⟨hrw1, hrw2, hrw3, hrw4⟩ := hrow s (by omega)
       refine wc_skip ?_
       refine wc_seq ?_
       refine wc_block ?_
       refine wc_seq ?_
       refine wc_region ?_
       refine wl_v rfl rfl rfl (v_fb (o2 := 8) fa103_3 rfl rfl) ?_
       refine wl_v rfl rfl rfl (v_load one97 rfl (H.at (by repeat constructor) rfl)) ?_
       refine wl_v rfl rfl rfl (v_move rfl) ?_
       refine wl_v rfl rfl rfl (v_idx Try.underlying97 sz4 (fun h_ => (H.rrd (f := fBool) (e := 4) (A := Am) (xs := M) (by repeat constructor)).ad (by omega)) rfl rfl (by omega) (by omega)) ?_
       refine wl_v rfl rfl rfl (v_load one4 rfl ((H.rrd (f := fBool) (e := 4) (A := Am) (xs := M) (by repeat constructor)).at1bN (i := s) (by omega))) ?_
       refine wl_nil ?_
       refine wc_cond rfl (fun c6 => ?_) (fun c6 => ?_)
       ·have hrch := (hM s).1 c6
        refine wc_seq ?_
        refine wc_seq ?_
        refine wc_region ?_
        refine wl_v rfl rfl rfl (v_assign rfl) ?_
        refine wl_nil ?_
        refine wc_block ?_
        refine wc_loop (σ := Nat × Value × List Ed) (fun s' => [(2, .pointer (some ⟨b2, 0, none⟩)), (3, .pointer (some ⟨b3, 0, none⟩)), (6, .pointer (some ⟨b6, 0, none⟩)), (9, .int .i64 s), (10, .int .i64 s'.1)]) (fun s' W => ((s'.1 ≤ g.kinds.length ∧ s'.2.2.length ≤ s * 4096 + s'.1) ∧ Ek (Dp g t (Pn g t s) s s'.1 0) s'.2.2) ∧ Holds w [Blk b6 103 [.slice a.k g.kinds.length a.ck, .slice a.p g.precs.length a.cp, .slice a.r g.rules.length a.cr, .slice a.q g.prods.length a.cq, .int .i64 g.start, .slice A t.mv.length ca, .slice B t.go.length cb, s'.2.1, .slice Am t.mv.length t.mv.length], Row fEd 106 s'.2.1 s'.2.2, Row fBool 4 (.slice Am t.mv.length t.mv.length) M, Blk b3 25 [.slice A t.mv.length ca, .slice B t.go.length cb], Blk b2 53 [.slice a.k g.kinds.length a.ck, .slice a.p g.precs.length a.cp, .slice a.r g.rules.length a.cr, .slice a.q g.prods.length a.cq, .int .i64 g.start]] W) (fun s' => g.kinds.length - s'.1) (0, ev, E) (sc rfl (sc rfl (sc rfl (sc rfl (sc rfl (sn _)))))) ⟨⟨⟨Nat.zero_le _, by dsimp only; omega⟩, hEk.cong dp_first⟩, H⟩ ?_
        rintro ⟨kj, ev, E⟩ W3 ⟨⟨⟨hkj, hEl⟩, hEk⟩, H⟩
        dsimp only at hkj hEl hEk H ⊢
        refine wc_seq ?_
        refine wc_seq ?_
        refine wc_region ?_
        refine wl_v rfl rfl rfl (v_move rfl) ?_
        refine wl_v rfl rfl rfl (v_fb (o2 := 0) fa53_0 rfl rfl) ?_
        refine wl_v rfl rfl rfl (v_load one49 rfl (H.at (by repeat constructor) rfl)) ?_
        refine wl_v rfl rfl rfl (v_len Try.underlying49 rfl) ?_
        refine wl_v rfl rfl rfl (v_lss rfl rfl) ?_
        refine wl_nil ?_
        refine wc_cond rfl (fun c7 => ?_) (fun c7 => ?_)
        ·have c7p := of_decide_eq_true c7
         refine wc_skip ?_
         refine wc_seq ?_
         refine wc_block ?_
         refine wc_region ?_
         refine wl_v rfl rfl rfl (v_move rfl) ?_
         refine wl_v rfl rfl rfl (v_move rfl) ?_
         refine wl_v rfl rfl rfl (v_fb (o2 := 0) fa25_0 rfl rfl) ?_
         refine wl_v rfl rfl rfl (v_load one22 rfl (H.at (by repeat constructor) rfl)) ?_
         refine wl_v rfl rfl rfl (v_move rfl) ?_
         refine wl_v rfl rfl rfl (v_idx Try.underlying22 sz38 hx.m.ad rfl rfl (by omega) (by omega)) ?_
         obtain ⟨B81, cp81, hc81, hl81, hr81⟩ := hx.m.atSlN (i := s) (by omega)
         refine wl_v rfl rfl rfl (v_load one38 rfl (H.cell (hc81))) ?_
         refine wl_v rfl rfl rfl (v_move rfl) ?_
         refine wl_v rfl rfl rfl (v_idx Try.underlying38 sz48 hr81.ad rfl rfl (by omega) (by omega)) ?_
         refine wl_v rfl rfl rfl (v_loadN (cs := fMv.enc _) agg48 rfl rfl (fun k u hu => H.cell (hr81.atN (i := kj) (k := k) mv0 (by omega) hu))) ?_
         refine wl_call en48 rfl rfl (known_calls (g := g) (a := a) (m := ((t.mv.getD s []).getD kj mv0)) (E := E) (L := [Row fBool 4 (.slice Am t.mv.length t.mv.length) M, Blk b3 25 [.slice A t.mv.length ca, .slice B t.go.length cb], Blk b2 53 [.slice a.k g.kinds.length a.ck, .slice a.p g.precs.length a.cp, .slice a.r g.rules.length a.cr, .slice a.q g.prods.length a.cq, .int .i64 g.start]]) (H.pm (by repeat constructor)) (by omega)) ?_
         rintro _ w39 ⟨ev2, E2, rfl, hE2, Hc⟩
         refine wl_nil ?_
         refine wc_region ?_
         refine wl_v rfl rfl rfl (v_move rfl) ?_
         refine wl_v rfl rfl rfl (v_addi rfl rfl (by omega)) ?_
         refine wl_v rfl rfl rfl (v_assign rfl) ?_
         refine wl_nil ?_
         rcases hE2 with ⟨hd1, rfl⟩ | ⟨hd1, rfl⟩
         · obtain ⟨q, hq0⟩ : ∃ q : Nat, ((t.mv.getD s []).getD kj mv0).n = (q : Int) := by
             have h_ := hrw3 kj (by omega)
             unfold mvOk at h_
             exact ⟨((t.mv.getD s []).getD kj mv0).n.toNat, by omega⟩
           rw [hq0] at Hc
           exact ⟨(kj + 1, ev2, E ++ [⟨(s : Int), (kj : Int), (q : Int)⟩]), (sc rfl (sc rfl (sc rfl (sc rfl (sc rfl (sn _)))))), ⟨⟨⟨by dsimp only; omega, by dsimp only; rw [List.length_append, List.length_singleton]; omega⟩, hEk.add.cong (dp_madd (by omega) hd1 hq0)⟩, Hc.pm (by repeat constructor)⟩, by dsimp only; omega⟩
         · exact ⟨(kj + 1, ev2, E2), (sc rfl (sc rfl (sc rfl (sc rfl (sc rfl (sn _)))))), ⟨⟨⟨by dsimp only; omega, by dsimp only; omega⟩, hEk.cong (dp_mskip (by omega) hd1)⟩, Hc.pm (by repeat constructor)⟩, by dsimp only; omega⟩
        ·have c7p := of_decide_eq_false c7
         refine wc_exit ?_
         refine wc_seq ?_
         refine wc_region ?_
         refine wl_v rfl rfl rfl (v_assign rfl) ?_
         refine wl_nil ?_
         refine wc_block ?_
         refine wc_loop (σ := Nat × Value × List Ed) (fun s' => [(2, .pointer (some ⟨b2, 0, none⟩)), (3, .pointer (some ⟨b3, 0, none⟩)), (6, .pointer (some ⟨b6, 0, none⟩)), (9, .int .i64 s), (11, .int .i64 s'.1)]) (fun s' W => ((s'.1 ≤ g.rules.length ∧ s'.2.2.length ≤ s * 4096 + 1024 + s'.1) ∧ Ek (Dp g t (Pn g t s) s g.kinds.length s'.1) s'.2.2) ∧ Holds w [Blk b6 103 [.slice a.k g.kinds.length a.ck, .slice a.p g.precs.length a.cp, .slice a.r g.rules.length a.cr, .slice a.q g.prods.length a.cq, .int .i64 g.start, .slice A t.mv.length ca, .slice B t.go.length cb, s'.2.1, .slice Am t.mv.length t.mv.length], Row fEd 106 s'.2.1 s'.2.2, Row fBool 4 (.slice Am t.mv.length t.mv.length) M, Blk b3 25 [.slice A t.mv.length ca, .slice B t.go.length cb], Blk b2 53 [.slice a.k g.kinds.length a.ck, .slice a.p g.precs.length a.cp, .slice a.r g.rules.length a.cr, .slice a.q g.prods.length a.cq, .int .i64 g.start]] W) (fun s' => g.rules.length - s'.1) (0, ev, E) (sc rfl (sc rfl (sc rfl (sc rfl (sc rfl (sn _)))))) ⟨⟨⟨Nat.zero_le _, by dsimp only; omega⟩, by (have e_ : kj = g.kinds.length := (by omega); rw [← e_]; exact hEk)⟩, H⟩ ?_
         rintro ⟨kj, ev, E⟩ W4 ⟨⟨⟨hkj, hEl⟩, hEk⟩, H⟩
         dsimp only at hkj hEl hEk H ⊢
         refine wc_seq ?_
         refine wc_seq ?_
         refine wc_region ?_
         refine wl_v rfl rfl rfl (v_move rfl) ?_
         refine wl_v rfl rfl rfl (v_fb (o2 := 2) fa53_2 rfl rfl) ?_
         refine wl_v rfl rfl rfl (v_load one49 rfl (H.at (by repeat constructor) rfl)) ?_
         refine wl_v rfl rfl rfl (v_len Try.underlying49 rfl) ?_
         refine wl_v rfl rfl rfl (v_lss rfl rfl) ?_
         refine wl_nil ?_
         refine wc_cond rfl (fun c8 => ?_) (fun c8 => ?_)
         ·have c8p := of_decide_eq_true c8
          refine wc_skip ?_
          refine wc_seq ?_
          refine wc_block ?_
          refine wc_seq ?_
          refine wc_region ?_
          refine wl_v rfl rfl rfl (v_fb (o2 := 1) fa25_1 rfl rfl) ?_
          refine wl_v rfl rfl rfl (v_load one23 rfl (H.at (by repeat constructor) rfl)) ?_
          refine wl_v rfl rfl rfl (v_move rfl) ?_
          refine wl_v rfl rfl rfl (v_idx Try.underlying23 sz39 hx.g.ad rfl rfl (by omega) (by omega)) ?_
          obtain ⟨B97, cp97, hc97, hl97, hr97⟩ := hx.g.atSlN (i := s) (by omega)
          refine wl_v rfl rfl rfl (v_load one39 rfl (H.cell (hc97))) ?_
          refine wl_v rfl rfl rfl (v_move rfl) ?_
          refine wl_v rfl rfl rfl (v_idx Try.underlying39 sz3 hr97.ad rfl rfl (by omega) (by omega)) ?_
          refine wl_v rfl rfl rfl (v_load one3 rfl (H.cell (hr97.at1N (i := kj) (by omega)))) ?_
          refine wl_v rfl rfl rfl (v_geq rfl rfl) ?_
          refine wl_nil ?_
          refine wc_cond rfl (fun c9 => ?_) (fun c9 => ?_)
          ·have c9p := of_decide_eq_true c9
           obtain ⟨q, hq0⟩ : ∃ q : Nat, ((t.go.getD s []).getD kj 0) = (q : Int) := ⟨((t.go.getD s []).getD kj 0).toNat, by omega⟩
           refine wc_tree [0, 1, 2, 3, 4, 5, 6, 7, 8, 9, 10, 11, 12, 13, 14, 15, 16, 19] (fun W => Holds w [Blk b6 103 [.slice a.k g.kinds.length a.ck, .slice a.p g.precs.length a.cp, .slice a.r g.rules.length a.cr, .slice a.q g.prods.length a.cq, .int .i64 g.start, .slice A t.mv.length ca, .slice B t.go.length cb, ev, .slice Am t.mv.length t.mv.length], Blk b3 25 [.slice A t.mv.length ca, .slice B t.go.length cb], Blk b2 53 [.slice a.k g.kinds.length a.ck, .slice a.p g.precs.length a.cp, .slice a.r g.rules.length a.cr, .slice a.q g.prods.length a.cq, .int .i64 g.start]] W) mixed ?_
           have Hd := H.drew
           have HSd : Holds w [Blk b6 103 [.slice a.k g.kinds.length a.ck, .slice a.p g.precs.length a.cp, .slice a.r g.rules.length a.cr, .slice a.q g.prods.length a.cq, .int .i64 g.start, .slice A t.mv.length ca, .slice B t.go.length cb, ev, .slice Am t.mv.length t.mv.length], Blk b3 25 [.slice A t.mv.length ca, .slice B t.go.length cb], Blk b2 53 [.slice a.k g.kinds.length a.ck, .slice a.p g.precs.length a.cp, .slice a.r g.rules.length a.cr, .slice a.q g.prods.length a.cq, .int .i64 g.start]] _ := Hd.pm (by repeat constructor)
           refine wj_v (k := 0) rfl (by kernel_rfl) (fun _ _ _ h => h) HSd rfl rfl rfl (fun W HW => v_fb (o2 := 7) fa103_2 rfl rfl) ?_
           refine wj_v (k := 1) rfl (by kernel_rfl) (fun _ _ _ h => h) HSd rfl rfl rfl (fun W HW => v_load one101 rfl (HW.at (by repeat constructor) rfl)) ?_
           refine wj_v (k := 2) rfl (by kernel_rfl) (fun _ _ _ h => h) HSd rfl rfl rfl (fun W HW => v_move rfl) ?_
           refine wj_v (k := 3) rfl (by kernel_rfl) (fun _ _ _ h => h) HSd rfl rfl rfl (fun W HW => v_fb (o2 := 0) fa53_0 rfl rfl) ?_
           refine wj_v (k := 4) rfl (by kernel_rfl) (fun _ _ _ h => h) HSd rfl rfl rfl (fun W HW => v_load one49 rfl (HW.at (by repeat constructor) rfl)) ?_
           refine wj_v (k := 5) rfl (by kernel_rfl) (fun _ _ _ h => h) HSd rfl rfl rfl (fun W HW => v_len Try.underlying49 rfl) ?_
           refine wj_v (k := 6) rfl (by kernel_rfl) (fun _ _ _ h => h) HSd rfl rfl rfl (fun W HW => v_move rfl) ?_
           refine wj_v (k := 7) rfl (by kernel_rfl) (fun _ _ _ h => h) HSd rfl rfl rfl (fun W HW => v_addi rfl rfl (by omega)) ?_
           refine wj_v (k := 8) rfl (by kernel_rfl) (fun _ _ _ h => h) HSd rfl rfl rfl (fun W HW => v_fb (o2 := 1) fa25_1 rfl rfl) ?_
           refine wj_v (k := 9) rfl (by kernel_rfl) (fun _ _ _ h => h) HSd rfl rfl rfl (fun W HW => v_load one23 rfl (HW.at (by repeat constructor) rfl)) ?_
           refine wj_v (k := 10) rfl (by kernel_rfl) (fun _ _ _ h => h) HSd rfl rfl rfl (fun W HW => v_move rfl) ?_
           refine wj_v (k := 11) rfl (by kernel_rfl) (fun _ _ _ h => h) HSd rfl rfl rfl (fun W HW => v_idx Try.underlying23 sz39 hx.g.ad rfl rfl (by omega) (by omega)) ?_
           obtain ⟨B114, cp114, hc114, hl114, hr114⟩ := hx.g.atSlN (i := s) (by omega)
           refine wj_v (k := 12) rfl (by kernel_rfl) (fun _ _ _ h => h) HSd rfl rfl rfl (fun W HW => v_load one39 rfl (HW.cell (hc114))) ?_
           refine wj_v (k := 13) rfl (by kernel_rfl) (fun _ _ _ h => h) HSd rfl rfl rfl (fun W HW => v_move rfl) ?_
           refine wj_v (k := 14) rfl (by kernel_rfl) (fun _ _ _ h => h) HSd rfl rfl rfl (fun W HW => v_idx Try.underlying39 sz3 hr114.ad rfl rfl (by omega) (by omega)) ?_
           refine wj_v (k := 15) rfl (by kernel_rfl) (fun _ _ _ h => h) HSd rfl rfl rfl (fun W HW => v_load one3 rfl (HW.cell (hr114.at1N (i := kj) (by omega)))) ?_
           refine wj_v (k := 16) rfl (by kernel_rfl) (fun _ _ _ h => h) HSd rfl rfl rfl (fun W HW => v_bld ba106 rfl (by repeat constructor)) ?_
           refine wj_t (k := 17) rfl (by kernel_rfl) ?_
           refine wl_slit (v := .agg #[.int .i64 0, .int .i64 0, .int .i64 0]) (z := [.int .i64 0, .int .i64 0, .int .i64 0]) (cs := [.int .i64 s, .int .i64 ((g.kinds.length : Int) + kj), .int .i64 ((t.go.getD s []).getD kj 0)]) (sz := 3) Hd rfl Try.underlying101 sz106 zv106 (by decide) (by decide) (by kernel_rfl) rfl (by repeat constructor) ?_
           intro b119 w40 hb119 H40 hs40
           have HS41 : Holds w [Blk b6 103 [.slice a.k g.kinds.length a.ck, .slice a.p g.precs.length a.cp, .slice a.r g.rules.length a.cr, .slice a.q g.prods.length a.cq, .int .i64 g.start, .slice A t.mv.length ca, .slice B t.go.length cb, ev, .slice Am t.mv.length t.mv.length], Blk b3 25 [.slice A t.mv.length ca, .slice B t.go.length cb], Blk b2 53 [.slice a.k g.kinds.length a.ck, .slice a.p g.precs.length a.cp, .slice a.r g.rules.length a.cr, .slice a.q g.prods.length a.cq, .int .i64 g.start]] _ := H40.pm (by repeat constructor)
           refine wl_nil (tn ⟨fun _ => HS41, ?_⟩)
           refine wj_t (k := 18) rfl (by kernel_rfl) ?_
           refine wl_app1 (f := fEd) (xs := E) (y' := (⟨s, (g.kinds.length : Int) + kj, ((t.go.getD s []).getD kj 0)⟩ : Ed)) H40 (fun v' => (by repeat constructor)) (by repeat constructor) rfl Try.underlying101 info106 rfl (by decide) rfl rfl rfl (by omega) (by decide) ?_
           intro A120 z120 w42 H42 hs42
           have HS43 : Holds w [Blk b6 103 [.slice a.k g.kinds.length a.ck, .slice a.p g.precs.length a.cp, .slice a.r g.rules.length a.cr, .slice a.q g.prods.length a.cq, .int .i64 g.start, .slice A t.mv.length ca, .slice B t.go.length cb, ev, .slice Am t.mv.length t.mv.length], Blk b3 25 [.slice A t.mv.length ca, .slice B t.go.length cb], Blk b2 53 [.slice a.k g.kinds.length a.ck, .slice a.p g.precs.length a.cp, .slice a.r g.rules.length a.cr, .slice a.q g.prods.length a.cq, .int .i64 g.start]] _ := H42.pm (by repeat constructor)
           refine wl_nil (tn ⟨fun _ => HS43, ?_⟩)
           refine wj_v (k := 19) rfl (by kernel_rfl) (fun _ _ _ h => h) HS43 rfl rfl rfl (fun W HW => v_fb (o2 := 7) fa103_2 rfl rfl) ?_
           refine wj_t (k := 20) rfl (by kernel_rfl) ?_
           refine wl_store (vs := [_]) H42 (by repeat constructor) sz101 rfl rfl rfl rfl rfl (by (repeat constructor)) ?_
           intro w44 H45 hw44
           refine wl_nil (tn ⟨fun hlt => absurd hlt (by rw [show allH _ _ _ = true by kernel_rfl]; simp), ?_⟩)
           refine wj_done (by kernel_rfl) ?_
           refine wc_region ?_
           refine wl_v rfl rfl rfl (v_move rfl) ?_
           refine wl_v rfl rfl rfl (v_addi rfl rfl (by omega)) ?_
           refine wl_v rfl rfl rfl (v_assign rfl) ?_
           refine wl_nil ?_
           first
             | (have q_ := hq0
                rw [hq0] at H45
                exact ⟨(kj + 1, _, E ++ [⟨(s : Int), (g.kinds.length : Int) + kj, (q : Int)⟩]), (sc rfl (sc rfl (sc rfl (sc rfl (sc rfl (sn _)))))), ⟨⟨⟨by dsimp only; omega, by dsimp only; rw [List.length_append, List.length_singleton]; omega⟩, hEk.add.cong (dp_gadd (by omega) hq0)⟩, H45.pm (by repeat constructor)⟩, by dsimp only; omega⟩)
             | exact ⟨(kj + 1, ev, E), (sc rfl (sc rfl (sc rfl (sc rfl (sc rfl (sn _)))))), ⟨⟨⟨by dsimp only; omega, by dsimp only; omega⟩, hEk.cong (dp_gskip (by omega) (by omega))⟩, H45.pm (by repeat constructor)⟩, by dsimp only; omega⟩
          ·have c9p := of_decide_eq_false c9
           refine wc_skip ?_
           refine wc_region ?_
           refine wl_v rfl rfl rfl (v_move rfl) ?_
           refine wl_v rfl rfl rfl (v_addi rfl rfl (by omega)) ?_
           refine wl_v rfl rfl rfl (v_assign rfl) ?_
           refine wl_nil ?_
           first
             | (have q_ := hq0
                rw [hq0] at H
                exact ⟨(kj + 1, _, E ++ [⟨(s : Int), (g.kinds.length : Int) + kj, (q : Int)⟩]), (sc rfl (sc rfl (sc rfl (sc rfl (sc rfl (sn _)))))), ⟨⟨⟨by dsimp only; omega, by dsimp only; rw [List.length_append, List.length_singleton]; omega⟩, hEk.add.cong (dp_gadd (by omega) hq0)⟩, H.pm (by repeat constructor)⟩, by dsimp only; omega⟩)
             | exact ⟨(kj + 1, ev, E), (sc rfl (sc rfl (sc rfl (sc rfl (sc rfl (sn _)))))), ⟨⟨⟨by dsimp only; omega, by dsimp only; omega⟩, hEk.cong (dp_gskip (by omega) (by omega))⟩, H.pm (by repeat constructor)⟩, by dsimp only; omega⟩
         ·have c8p := of_decide_eq_false c8
          refine wc_exit ?_
          refine wc_region ?_
          refine wl_v rfl rfl rfl (v_move rfl) ?_
          refine wl_v rfl rfl rfl (v_addi rfl rfl (by omega)) ?_
          refine wl_v rfl rfl rfl (v_assign rfl) ?_
          refine wl_nil ?_
          first
            | (have q_ := hrch
               exact ⟨(s + 1, ev, E), (sc rfl (sc rfl (sc rfl (sc rfl (sn _))))), ⟨⟨⟨by dsimp only; omega, by dsimp only; omega⟩, hEk.cong (dp_last (by omega) (by omega) hrch)⟩, H.pm (by repeat constructor)⟩, by dsimp only; omega⟩)
            | exact ⟨(s + 1, ev, E), (sc rfl (sc rfl (sc rfl (sc rfl (sn _))))), ⟨⟨⟨by dsimp only; omega, by dsimp only; omega⟩, hEk.cong (dq_skip fun h_ => absurd (((hM s).2 h_).symm.trans c6) Bool.noConfusion)⟩, H.pm (by repeat constructor)⟩, by dsimp only; omega⟩
       ·refine wc_skip ?_
        refine wc_region ?_
        refine wl_v rfl rfl rfl (v_move rfl) ?_
        refine wl_v rfl rfl rfl (v_addi rfl rfl (by omega)) ?_
        refine wl_v rfl rfl rfl (v_assign rfl) ?_
        refine wl_nil ?_
        first
          | (have q_ := hrch
             exact ⟨(s + 1, ev, E), (sc rfl (sc rfl (sc rfl (sc rfl (sn _))))), ⟨⟨⟨by dsimp only; omega, by dsimp only; omega⟩, hEk.cong (dp_last (by omega) (by omega) hrch)⟩, H.pm (by repeat constructor)⟩, by dsimp only; omega⟩)
          | exact ⟨(s + 1, ev, E), (sc rfl (sc rfl (sc rfl (sc rfl (sn _))))), ⟨⟨⟨by dsimp only; omega, by dsimp only; omega⟩, hEk.cong (dq_skip fun h_ => absurd (((hM s).2 h_).symm.trans c6) Bool.noConfusion)⟩, H.pm (by repeat constructor)⟩, by dsimp only; omega⟩
      ·have c5p := of_decide_eq_false c5
       have hEd := hEk.fin hf (by omega)
       obtain ⟨Ae, ce, rfl⟩ := H.rform (f := fEd) (e := 106) (v := ev) (xs := E) (by repeat constructor)
       refine wc_exit ?_
       refine wc_seq ?_
       refine wc_seq ?_
       refine wc_region ?_
       refine wl_v rfl rfl rfl (v_assign rfl) ?_
       refine wl_nil ?_
       refine wc_block ?_
       refine wc_loop (σ := Nat) (fun s' => [(2, .pointer (some ⟨b2, 0, none⟩)), (3, .pointer (some ⟨b3, 0, none⟩)), (6, .pointer (some ⟨b6, 0, none⟩)), (12, .int .i64 s')]) (fun s' W => (s' ≤ t.mv.length ∧ ∀ s, s < s' → Rch g t s → StOk g t s) ∧ Holds w [Blk b6 103 [.slice a.k g.kinds.length a.ck, .slice a.p g.precs.length a.cp, .slice a.r g.rules.length a.cr, .slice a.q g.prods.length a.cq, .int .i64 g.start, .slice A t.mv.length ca, .slice B t.go.length cb, (.slice Ae E.length ce), .slice Am t.mv.length t.mv.length], Row fEd 106 (.slice Ae E.length ce) E, Row fBool 4 (.slice Am t.mv.length t.mv.length) M, Blk b3 25 [.slice A t.mv.length ca, .slice B t.go.length cb], Blk b2 53 [.slice a.k g.kinds.length a.ck, .slice a.p g.precs.length a.cp, .slice a.r g.rules.length a.cr, .slice a.q g.prods.length a.cq, .int .i64 g.start]] W) (fun s' => t.mv.length - s') 0 (sc rfl (sc rfl (sc rfl (sc rfl (sn _))))) ⟨⟨Nat.zero_le _, upto_zero⟩, H⟩ ?_
       rintro i W5 ⟨⟨hi, ha⟩, H⟩
       refine wc_seq ?_
       refine wc_seq ?_
       refine wc_region ?_
       refine wl_v rfl rfl rfl (v_move rfl) ?_
       refine wl_v rfl rfl rfl (v_fb (o2 := 0) fa25_0 rfl rfl) ?_
       refine wl_v rfl rfl rfl (v_load one22 rfl (H.at (by repeat constructor) rfl)) ?_
       refine wl_v rfl rfl rfl (v_len Try.underlying22 rfl) ?_
       refine wl_v rfl rfl rfl (v_lss rfl rfl) ?_
       refine wl_nil ?_
       refine wc_cond rfl (fun c10 => ?_) (fun c10 => ?_)
       ·have c10p := of_decide_eq_true c10
        refine wc_skip ?_
        refine wc_seq ?_
        refine wc_block ?_
        refine wc_seq ?_
        refine wc_region ?_
        refine wl_v rfl rfl rfl (v_fb (o2 := 8) fa103_3 rfl rfl) ?_
        refine wl_v rfl rfl rfl (v_load one97 rfl (H.at (by repeat constructor) rfl)) ?_
        refine wl_v rfl rfl rfl (v_move rfl) ?_
        refine wl_v rfl rfl rfl (v_idx Try.underlying97 sz4 (fun h_ => (H.rrd (f := fBool) (e := 4) (A := Am) (xs := M) (by repeat constructor)).ad (by omega)) rfl rfl (by omega) (by omega)) ?_
        refine wl_v rfl rfl rfl (v_load one4 rfl ((H.rrd (f := fBool) (e := 4) (A := Am) (xs := M) (by repeat constructor)).at1bN (i := i) (by omega))) ?_
        refine wl_v rfl rfl rfl (v_move rfl) ?_
        refine wl_guard rfl rfl rfl (fun g134 => ?_) (fun g134 => ?_)
        ·refine wl_v rfl rfl rfl (v_move rfl) ?_
         refine wl_on' rfl rfl g134 ?_
         refine wl_call en49 rfl rfl (rright_calls (g := g) (a := a) (s := i) (ce := ce) (mvv := .slice Am t.mv.length t.mv.length) (fun j_ v_ hv_ => H.at (off := j_) (by repeat constructor) hv_) (hx.below H.old) hf (H.rrd (f := fEd) (e := 106) (A := Ae) (xs := E) (by repeat constructor)) hEd (by omega) (by omega) (hr.below H.old) hG hk) ?_
         rintro _ w47 ⟨rfl, Hc⟩
         have H48 := H.call0 Hc
         refine wl_on' rfl rfl g134 ?_
         refine wl_v rfl rfl rfl (v_not rfl) ?_
         refine wl_v rfl rfl rfl (v_pick_t rfl g134 rfl) ?_
         refine wl_nil ?_
         refine wc_cond rfl (fun c11 => ?_) (fun c11 => ?_)
         ·have c11p := of_n_t c11
          refine wc_seq ?_
          refine wc_region ?_
          refine wl_v rfl rfl rfl (v_move rfl) ?_
          refine wl_v rfl rfl rfl (v_assign rfl) ?_
          refine wl_v rfl rfl rfl (v_assign rfl) ?_
          refine wl_nil ?_
          refine wc_ret ?_
          first
            | exact ⟨_, res2 rfl rfl rfl, _, _, rfl, .inl ⟨hG, rfl, rfl⟩, H48.pm (Pm.nil _)⟩
            | exact ⟨_, res2 rfl rfl rfl, _, _, rfl, .inr (.inl ⟨hG, c1p, rfl, rfl⟩), H48.pm (Pm.nil _)⟩
            | exact ⟨_, res2 rfl rfl rfl, _, _, rfl, .inr (.inr ⟨hG, c1p, .inl ⟨i, rfl, rfl, by omega, ⟨(hM i).1 g134, of_ndec (of_n_t c11)⟩, ha⟩⟩), H48.pm (Pm.nil _)⟩
            | exact ⟨_, res2 rfl rfl rfl, _, _, rfl, .inr (.inr ⟨hG, c1p, .inr ⟨rfl, rfl, fun s hs => ha s (by omega)⟩⟩), H48.pm (Pm.nil _)⟩
         ·have c11p := of_n_f c11
          refine wc_skip ?_
          refine wc_region ?_
          refine wl_v rfl rfl rfl (v_move rfl) ?_
          refine wl_v rfl rfl rfl (v_addi rfl rfl (by omega)) ?_
          refine wl_v rfl rfl rfl (v_assign rfl) ?_
          refine wl_nil ?_
          first
            | (have q_ := c11
               exact ⟨i + 1, (sc rfl (sc rfl (sc rfl (sc rfl (sn _))))), ⟨⟨by omega, upto_succ ha fun _ => of_dec (of_n_f c11)⟩, H48.pm (by repeat constructor)⟩, by omega⟩)
            | exact ⟨i + 1, (sc rfl (sc rfl (sc rfl (sc rfl (sn _))))), ⟨⟨by omega, upto_succ ha fun h_ => absurd (((hM i).2 h_).symm.trans g134) Bool.noConfusion⟩, H48.pm (by repeat constructor)⟩, by omega⟩
        ·refine wl_off rfl rfl g134 rfl ?_
         refine wl_off rfl rfl g134 rfl ?_
         refine wl_v rfl rfl rfl (v_pick_f rfl g134 rfl) ?_
         refine wl_nil ?_
         refine wc_cond_f rfl ?_
         refine wc_skip ?_
         refine wc_region ?_
         refine wl_v rfl rfl rfl (v_move rfl) ?_
         refine wl_v rfl rfl rfl (v_addi rfl rfl (by omega)) ?_
         refine wl_v rfl rfl rfl (v_assign rfl) ?_
         refine wl_nil ?_
         first
           | (have q_ := c11
              exact ⟨i + 1, (sc rfl (sc rfl (sc rfl (sc rfl (sn _))))), ⟨⟨by omega, upto_succ ha fun _ => of_dec (of_n_f c11)⟩, H.pm (by repeat constructor)⟩, by omega⟩)
           | exact ⟨i + 1, (sc rfl (sc rfl (sc rfl (sc rfl (sn _))))), ⟨⟨by omega, upto_succ ha fun h_ => absurd (((hM i).2 h_).symm.trans g134) Bool.noConfusion⟩, H.pm (by repeat constructor)⟩, by omega⟩
       ·have c10p := of_decide_eq_false c10
        refine wc_exit ?_
        refine wc_seq ?_
        refine wc_region ?_
        refine wl_v rfl rfl rfl (v_assign rfl) ?_
        refine wl_v rfl rfl rfl (v_assign rfl) ?_
        refine wl_nil ?_
        refine wc_ret ?_
        first
          | exact ⟨_, res2 rfl rfl rfl, _, _, rfl, .inl ⟨hG, rfl, rfl⟩, H.pm (Pm.nil _)⟩
          | exact ⟨_, res2 rfl rfl rfl, _, _, rfl, .inr (.inl ⟨hG, c1p, rfl, rfl⟩), H.pm (Pm.nil _)⟩
          | exact ⟨_, res2 rfl rfl rfl, _, _, rfl, .inr (.inr ⟨hG, c1p, .inl ⟨i, rfl, rfl, by omega, ⟨(hM i).1 g134, of_ndec (of_n_t c11)⟩, ha⟩⟩), H.pm (Pm.nil _)⟩
          | exact ⟨_, res2 rfl rfl rfl, _, _, rfl, .inr (.inr ⟨hG, c1p, .inr ⟨rfl, rfl, fun s hs => ha s (by omega)⟩⟩), H.pm (Pm.nil _)⟩
end Go.Proofs.Ytkpehkadammppaa.RSound

/-! The table of one state. -/
namespace Go.Proofs.YtkpehkadammppaaFx
open Go Go.RowKit
theorem Holds.rawAt {W0 w : World} {L : List Ch} {e sz n c N : Nat} {A : Option Addr} {cs : List Value} (H : Holds W0 L w) (U : Upd L (Raw e sz (.slice A n c) N cs) (Raw e sz (.slice A n c) N cs) L) : ∀ j u, cs[j]? = some u → w.cell? ((adr A).add j) = some u := by
  obtain ⟨A', c', h, _, _, hc⟩ := own_slice (H.raw U)
  injection h with h1 _ _
  subst h1
  exact hc
/-- A row of one row, opened. -/
theorem Holds.rr1 {α : Type} {f : Fk α} {W0 w : World} {L : List Ch} {e e2 : Nat} {v : Value} {xs : List α} (H : Holds W0 (RR f e e2 v [xs] :: L) w) : ∃ A c B c', v = .slice A 1 c ∧ (0 < 1 → A = some (adr A)) ∧ Holds W0 (Raw e 1 (.slice A 1 c) 1 [.slice B xs.length c'] :: Row f e2 (.slice B xs.length c') xs :: L) w := by
  obtain ⟨vs, hv, H2⟩ := H.rrOpen
  match vs, hv with
  | [u], _ =>
    have H3 : Holds W0 (Raw e 1 v 1 [u] :: Row f e2 u xs :: L) w := H2
    obtain ⟨B, c', rfl⟩ := H3.rform (f := f) (e := e2) (.there _ (.here _ _ _))
    obtain ⟨A, c, rfl, _, hA, _⟩ := own_slice (H3.raw (.here _ _ _))
    exact ⟨A, c, B, c', rfl, hA, H3⟩
theorem rd_blk {α : Type} {f : Fk α} {W0 w : World} {L : List Ch} {b e : Nat} {xs : List α} {cs : List Value} (H : Holds W0 L w) (U : Upd L (Blk b e cs) (Blk b e cs) L) (hcs : cs = xs.flatMap f.enc) : Rd f.kn w (some ⟨b, 0, none⟩) xs :=
  ⟨fun _ => rfl, fun j x hx => ⟨f.enc x, rfl, fun i u hu => H.ats U _ u (by rw [hcs]; exact flat_get f xs j x hx i u hu)⟩⟩
theorem rd_one {α : Type} {d : Kn α} {W0 w : World} {L : List Ch} {b e c : Nat} {A : Option Addr} {xs : List α} (H : Holds W0 L w) (U : Upd L (Blk b e [.slice A xs.length c]) (Blk b e [.slice A xs.length c]) L) (hc : xs.length ≤ c) (hr : Rd d w A xs) : Rd d.sl w (some ⟨b, 0, none⟩) [xs] :=
  ⟨fun _ => rfl, fun j x hx => by
    cases j with
    | zero =>
      simp only [List.getElem?_cons_zero, Option.some.injEq] at hx
      subst hx
      exact ⟨_, ⟨A, c, rfl, hc, hr⟩, fun i u hu => by
        cases i with
        | zero =>
          simp only [List.getElem?_cons_zero, Option.some.injEq] at hu
          subst hu
          exact H.ats U 0 _ rfl
        | succ i => simp at hu⟩
    | succ j => simp at hx⟩
theorem Holds.pk {W0 w : World} {a : PkA} {p : Pk} (H : Holds W0 (OwnP a p) w) : p.rd w a := by
  unfold OwnP at H
  exact ⟨H.rrd (by repeat constructor), H.rrd (by repeat constructor), H.rrd (by repeat constructor), H.rrd (by repeat constructor), H.rrd (by repeat constructor), H.rrd (by repeat constructor), H.rrd (by repeat constructor)⟩
def aT : Tb := ⟨[[⟨2, 0⟩, ⟨0, 0⟩, ⟨2, 0⟩]], [[0]]⟩
theorem aT_ok : aT.ok := ⟨by decide, by decide, fun r hr => by
    have : r = [⟨2, 0⟩, ⟨0, 0⟩, ⟨2, 0⟩] := by simpa [aT] using hr
    subst this
    exact ⟨by decide, fun m hm => by simp only [List.mem_cons, List.not_mem_nil, or_false] at hm; rcases hm with rfl | rfl | rfl <;> (unfold I64; decide)⟩, fun r hr => by
    have : r = [0] := by simpa [aT] using hr
    subst this
    exact ⟨by decide, fun m hm => by simp at hm; subst hm; unfold I64; decide⟩⟩
theorem aT_rd {W0 w : World} {b11 b12 b13 b14 : Nat} (H : Holds W0 [Blk b12 38 [.slice (some ⟨b11, 0, none⟩) 3 3], Blk b11 48 [.int .i64 2, .int .i64 0, .int .i64 0, .int .i64 0, .int .i64 2, .int .i64 0], Blk b14 39 [.slice (some ⟨b13, 0, none⟩) 1 1], Blk b13 3 [.int .i64 0]] w) : aT.rd w (some ⟨b12, 0, none⟩) (some ⟨b14, 0, none⟩) :=
  ⟨rd_one (A := some ⟨b11, 0, none⟩) (c := 3) (e := 38) H (.here _ _ _) (by decide) (rd_blk (f := fMv) (e := 48) H (.there _ (.here _ _ _)) rfl), rd_one (A := some ⟨b13, 0, none⟩) (c := 1) (e := 39) H (.there _ (.there _ (.here _ _ _))) (by decide) (rd_blk (f := fInt .i64) (e := 3) H (.there _ (.there _ (.there _ (.here _ _ _)))) rfl)⟩
theorem aT_rect : Rect aT := ⟨by decide, by decide, by decide, fun s hs => by
  have : s = 0 := by have : aT.mv.length = 1 := rfl; omega
  subst this
  exact ⟨rfl, rfl⟩⟩
def aD : Tb := ⟨[[⟨2, 0⟩, ⟨2, 0⟩, ⟨2, 0⟩]], [[0]]⟩
theorem aT_df : dfAns aT = aD ∧ dfErr aT = 0 := by
  obtain ⟨h1, h2⟩ := dfAns_t (dec_t aT_rect)
  rw [h1, h2]
  exact ⟨by decide, rfl⟩
theorem aT_good : TGood aT 3 1 1 := ⟨by decide, by decide, by decide, fun s hs => by
  have : s = 0 := by have : aT.mv.length = 1 := rfl; omega
  subst this
  refine ⟨rfl, rfl, fun j hj => ?_, fun j hj => ?_⟩
  · have hj : j < 3 := hj
    rcases (by omega : j = 0 ∨ j = 1 ∨ j = 2) with rfl | rfl | rfl
    · exact .inr (.inl ⟨rfl, by decide, by decide⟩)
    · exact .inr (.inr ⟨.inl rfl, rfl⟩)
    · exact .inr (.inl ⟨rfl, by decide, by decide⟩)
  · have hj : j < 1 := hj
    have : j = 0 := by omega
    subst this
    exact ⟨by decide, by decide⟩⟩
theorem aT_check : checkF aT 3 1 1 = 0 := checkF_ok (by omega) aT_good
def aP : Pk := packF aT 3 1 [0] [0]
theorem aP_is : pkAns aT 3 1 1 [0] [0] = aP := by rw [pkAns, if_pos aT_check]; rfl
theorem aP_mv : lookMv aP 0 2 = ⟨2, 0⟩ := by decide
theorem aP_go : lookGo aP 0 0 = 0 := by decide
theorem aP_ok : aP.ok := ⟨by unfold I64; decide, by unfold I64; decide, by decide, by decide, by decide, by decide, by decide, by decide, by decide, fun x hx => by
  have : aP.base = [0] := by decide
  rw [this] at hx; simp at hx; subst hx; unfold I64; decide, fun x hx => by
  have : aP.gbase = [0] := by decide
  rw [this] at hx; simp at hx; subst hx; unfold I64; decide⟩
end Go.Proofs.YtkpehkadammppaaFx

/-! What table.usual tells: a row's default. -/
namespace Go.Proofs.Ytkpehkadammppaa.UsualW
open Go Go.RowKit Go.Proofs.YtkpehkadammppaaFx 
theorem agg48 : Agg Try.prog 48 2 := agg_of Try.underlying48 (by kernel_rfl)
theorem ba48 : BuildAt Try.prog 48 [.int .i64 0, .int .i64 0] [(0, 1), (1, 1)] := build_at Try.underlying48 (by kernel_rfl) (by kernel_rfl)
theorem fa48_0 : FieldAt Try.prog 48 0 0 := field_at (sz := 0) Try.underlying48 rfl (by kernel_rfl) rfl
theorem fa48_1 : FieldAt Try.prog 48 1 1 := field_at (sz := 0) Try.underlying48 rfl (by kernel_rfl) rfl
theorem one3 : One Try.prog 3 := one_of Try.underlying3 rfl (by kernel_rfl)
theorem sz48 : ∀ W, (sizeOf 48).run Try.prog W = .ok 2 W := size_of (by kernel_rfl)
theorem zv3 : ∀ W, (zeroValue 3).run Try.prog W = .ok (.int .i64 0) W := zero_of (by kernel_rfl)
theorem zv48 : ∀ W, (zeroValue 48).run Try.prog W = .ok (.agg #[.int .i64 0, .int .i64 0]) W := zero_of (by kernel_rfl)

abbrev KI : KeyK Try.prog 3 Int := keyInt (k := .i64) Try.underlying3

set_option maxRecDepth 100000 in
theorem usual_calls {A : Option Addr} {c : Nat} {row : List Mv} {w : World} (hr : Rd fMv.kn w A row) (hm : row.length ≤ maxLen) (hw : ∀ m ∈ row, I64 m.n) :
    Calls Try.prog 33 #[.slice A row.length c] w fun e w' => ∃ v, e = .returned v ∧ v = .agg #[.int .i64 (usualF row).d, .int .i64 (usualF row).n] ∧ Holds w [] w' := by
  unfold maxLen at hm
  refine calls_of Try.func33 rfl Try.ntmps33 rfl ?_
  have H := Holds.start w
  refine wc_seq ?_
  refine wc_region ?_
  refine wl_alloc (cs := [.int .i64 0, .int .i64 0]) H rfl zv48 rfl ?_
  intro b2 w1 hb2 H2
  refine wl_nil ?_
  refine wc_seq ?_
  refine wc_region ?_
  refine wl_mkmap KI (Value.int .i64) H2 rfl ?_
  intro bm w3 hbm H3
  refine wl_v rfl rfl rfl (v_assign rfl) ?_
  refine wl_nil ?_
  refine wc_seq ?_
  refine wc_seq ?_
  refine wc_region ?_
  refine wl_v rfl rfl rfl (v_move rfl) ?_
  refine wl_v rfl rfl rfl (v_len Try.underlying38 rfl) ?_
  refine wl_v rfl rfl rfl (v_move rfl) ?_
  refine wl_nil ?_
  refine wc_block ?_
  refine wc_loop (σ := Nat) (fun s => [(2, .pointer (some ⟨b2, 0, none⟩)), (3, .map (some bm)), (10, .slice A row.length c), (11, .int .i64 row.length), (12, .int .i64 s)]) (fun s W => s ≤ row.length ∧ Holds w [Mp KI (Value.int .i64) bm s (fC (row.take s)), Blk b2 48 [.int .i64 0, .int .i64 0]] W) (fun s => row.length - s) 0 (sc rfl (sc rfl (sc rfl (sc rfl (sc rfl (sn _)))))) ⟨Nat.zero_le _, by rw [fC_nil] at H3; exact H3⟩ ?_
  rintro i W0 ⟨hi, H⟩
  refine wc_seq ?_
  refine wc_region ?_
  refine wl_v rfl rfl rfl (v_lss rfl rfl) ?_
  refine wl_nil ?_
  refine wc_seq ?_
  refine wc_cond rfl (fun c0 => ?_) (fun c0 => ?_)
  ·have c0p := of_decide_eq_true c0
   have hin : i < row.length := by omega
   have hwn := hw (row.getD i mv0) (getD_mem hin)
   have hcl := Nat.le_trans (cnt_le (row.take i) (row.getD i mv0).n) (List.length_take_le _ _)
   refine wc_skip ?_
   refine wc_seq ?_
   refine wc_block ?_
   refine wc_seq ?_
   refine wc_region ?_
   refine wl_v rfl rfl rfl (v_idx Try.underlying38 sz48 hr.ad rfl rfl (by omega) (by omega)) ?_
   refine wl_v rfl rfl rfl (v_loadN (cs := fMv.enc _) agg48 rfl rfl (fun k u hu => H.cell (hr.at (k := k) mv0 (by omega) (by omega) hu))) ?_
   refine wl_alloc (cs := [.int .i64 0, .int .i64 0]) H rfl zv48 rfl ?_
   intro b5 w4 hb5 H5
   refine wl_store (vs := [_, _]) H5 (by repeat constructor) sz48 rfl rfl rfl rfl rfl (by (repeat constructor)) ?_
   intro w6 H7 hw6
   refine wl_nil ?_
   refine wc_seq ?_
   refine wc_region ?_
   refine wl_v rfl rfl rfl (v_fb (o2 := 0) fa48_0 rfl rfl) ?_
   refine wl_v rfl rfl rfl (v_load one3 rfl (H7.at (by repeat constructor) rfl)) ?_
   refine wl_v rfl rfl rfl (v_eql rfl rfl) ?_
   refine wl_nil ?_
   refine wc_cond rfl (fun c1 => ?_) (fun c1 => ?_)
   ·have c1p := of_decide_eq_true c1
    refine wc_region ?_
    refine wl_v rfl rfl rfl (v_move rfl) ?_
    refine wl_v rfl rfl rfl (v_fb (o2 := 1) fa48_1 rfl rfl) ?_
    refine wl_v rfl rfl rfl (v_load one3 rfl (H7.at (by repeat constructor) rfl)) ?_
    refine wl_v rfl rfl rfl (v_look' H7 (by repeat constructor) Try.underlying116 zv3 (wf64 hwn) rfl rfl (fC_get _ _)) ?_
    refine wl_v rfl rfl rfl (v_addi rfl rfl (by omega)) ?_
    refine wl_mapset H7 (by repeat constructor) Try.underlying116 (wf64 hwn) (by unfold maxLen; omega) rfl rfl rfl ?_
    intro w9 H9
    refine wl_nil ?_
    refine wc_region ?_
    refine wl_v rfl rfl rfl (v_addi rfl rfl (by omega)) ?_
    refine wl_v rfl rfl rfl (v_move rfl) ?_
    refine wl_nil ?_
    first
      | exact ⟨i + 1, (sc rfl (sc rfl (sc rfl (sc rfl (sc rfl (sn _)))))), ⟨by omega, H9.tail.imp (by repeat constructor) (fun S h => by rw [fC_step hin c1p] at h; exact h)⟩, by omega⟩
      | exact ⟨i + 1, (sc rfl (sc rfl (sc rfl (sc rfl (sc rfl (sn _)))))), ⟨by omega, H9.tail.imp (B := Mp KI (Value.int .i64) bm (i + 1) (fC (row.take (i + 1)))) (by repeat constructor) (fun S h => by rw [fC_skip hin c1p] at h; exact Mp.mono (Nat.le_succ i) S h)⟩, by omega⟩
   ·have c1p := of_decide_eq_false c1
    refine wc_skip ?_
    refine wc_region ?_
    refine wl_v rfl rfl rfl (v_addi rfl rfl (by omega)) ?_
    refine wl_v rfl rfl rfl (v_move rfl) ?_
    refine wl_nil ?_
    first
      | exact ⟨i + 1, (sc rfl (sc rfl (sc rfl (sc rfl (sc rfl (sn _)))))), ⟨by omega, H7.tail.imp (by repeat constructor) (fun S h => by rw [fC_step hin c1p] at h; exact h)⟩, by omega⟩
      | exact ⟨i + 1, (sc rfl (sc rfl (sc rfl (sc rfl (sc rfl (sn _)))))), ⟨by omega, H7.tail.imp (B := Mp KI (Value.int .i64) bm (i + 1) (fC (row.take (i + 1)))) (by repeat constructor) (fun S h => by rw [fC_skip hin c1p] at h; exact Mp.mono (Nat.le_succ i) S h)⟩, by omega⟩
  ·have c0p := of_decide_eq_false c0
   rw [take_all c0p] at H
   refine wc_exit ?_
   refine wc_seq ?_
   refine wc_region ?_
   refine wl_v rfl rfl rfl (v_bld ba48 rfl (by repeat constructor)) ?_
   refine wl_alloc (cs := [.int .i64 0, .int .i64 0]) H rfl zv48 rfl ?_
   intro b6 w10 hb6 H11
   refine wl_store (vs := [_, _]) H11 (by repeat constructor) sz48 rfl rfl rfl rfl rfl (by (repeat constructor)) ?_
   intro w12 H13 hw12
   refine wl_nil ?_
   refine wc_seq ?_
   refine wc_seq ?_
   refine wc_region ?_
   refine wl_v rfl rfl rfl (v_move rfl) ?_
   refine wl_range H13 (fun r cnt => (by repeat constructor)) Try.underlying116 rfl rfl ?_
   intro r cn w14 hr14 H14
   refine wl_nil ?_
   refine wc_block ?_
   refine wc_loop (σ := (Int → Bool) × Nat × Mv × Option (Int × Int)) (fun s => [(2, .pointer (some ⟨b2, 0, none⟩)), (3, .map (some bm)), (6, .pointer (some ⟨b6, 0, none⟩)), (27, .pointer (some ⟨r, 0, none⟩))]) (fun s W => Best row (fun x => 0 < cnt row x ∧ s.1 x = false) s.2.2.1 ∧ Holds w [Blk b6 48 [.int .i64 s.2.2.1.d, .int .i64 s.2.2.1.n], It KI (Value.int .i64) bm r row.length (fC row) s.1 s.2.1 s.2.2.2, Blk b2 48 [.int .i64 0, .int .i64 0]] W) (fun s => s.2.1) (fun x => (fC row x).isSome, cn, mv0, none) (sc rfl (sc rfl (sc rfl (sc rfl (sn _))))) ⟨.inl ⟨rfl, fun x hx => absurd (((fC_isSome row x).2 hx.1).symm.trans hx.2) (by simp)⟩, H14.imp (B := It KI (Value.int .i64) bm r row.length (fC row) _ cn none) (by repeat constructor) (fun S h => It.mono hi S h)⟩ ?_
   rintro ⟨left, cn, best, cur⟩ W1 ⟨hb, H⟩
   dsimp only at hb H
   have hwb := Best.i64 hw (fun x hx => hx.1) hb
   refine wc_seq ?_
   refine wc_region ?_
   refine wl_next H (fun _ _ _ => (by repeat constructor)) rfl rfl (fun hdone => ?_) (fun kx vx left2 cn2 wn hk1 hk2 hk3 hk4 hk5 Hn => ?_)
   ·refine wl_v rfl rfl rfl (v_extract rfl rfl) ?_
    refine wl_nil ?_
    refine wc_seq ?_
    refine wc_cond_f rfl ?_
    refine wc_exit ?_
    refine wc_seq ?_
    refine wc_region ?_
    refine wl_v rfl rfl rfl (v_loadN agg48 rfl rfl (H.ats (by repeat constructor))) ?_
    refine wl_store (vs := [_, _]) H (by repeat constructor) sz48 rfl rfl rfl rfl rfl (by (repeat constructor)) ?_
    intro w15 H16 hw15
    refine wl_nil ?_
    refine wc_ret ?_
    exact ⟨_, resc rfl rfl (run_loadVarN agg48 rfl (H16.ats (by repeat constructor))), by rw [show best = usualF row from (hb.usual fun x => ⟨fun h => h.1, fun h => ⟨h, hdone x (wf64 (cnt_i64 hw h))⟩⟩).unique (usualF_is row)], ((H16.drop (by repeat constructor)).drop (by repeat constructor)).tail⟩
   ·refine wl_v rfl rfl rfl (v_extract rfl rfl) ?_
    refine wl_nil ?_
    refine wc_seq ?_
    refine wc_cond_t rfl ?_
    refine wc_skip ?_
    refine wc_block ?_
    refine wc_seq ?_
    refine wc_region ?_
    refine wl_v rfl rfl rfl (v_entry Hn (by repeat constructor) rfl) ?_
    refine wl_v rfl rfl rfl (v_extract rfl rfl) ?_
    refine wl_v rfl rfl rfl (v_extract rfl rfl) ?_
    refine wl_v rfl rfl rfl (v_assign rfl) ?_
    refine wl_v rfl rfl rfl (v_assign rfl) ?_
    refine wl_nil ?_
    refine wc_seq ?_
    refine wc_region ?_
    refine wl_v rfl rfl rfl (v_fb (o2 := 0) fa48_0 rfl rfl) ?_
    refine wl_v rfl rfl rfl (v_load one3 rfl (Hn.at (by repeat constructor) rfl)) ?_
    refine wl_v rfl rfl rfl (v_eql rfl rfl) ?_
    refine wl_v rfl rfl rfl (v_move rfl) ?_
    refine wl_guard rfl rfl rfl (fun g36 => ?_) (fun g36 => ?_)
    ·have g36p := of_decide_eq_false g36
     refine wl_v rfl rfl rfl (v_move rfl) ?_
     refine wl_on' rfl rfl g36 ?_
     refine wl_v rfl rfl rfl (v_move rfl) ?_
     refine wl_on' rfl rfl g36 ?_
     refine wl_v rfl rfl rfl (v_fb (o2 := 1) fa48_1 rfl rfl) ?_
     refine wl_on' rfl rfl g36 ?_
     refine wl_v rfl rfl rfl (v_load one3 rfl (Hn.at (by repeat constructor) rfl)) ?_
     refine wl_on' rfl rfl g36 ?_
     refine wl_v rfl rfl rfl (v_lookI Hn (by repeat constructor) Try.underlying116 zv3 (wf64 hwb) rfl rfl (fC_get _ _)) ?_
     refine wl_on' rfl rfl g36 ?_
     refine wl_v rfl rfl rfl (v_gtr rfl rfl) ?_
     refine wl_v rfl rfl rfl (v_pick_f rfl g36 rfl) ?_
     refine wl_v rfl rfl rfl (v_move rfl) ?_
     refine wl_guard rfl rfl rfl (fun g44 => ?_) (fun g44 => ?_)
     ·have g44p := of_decide_eq_false g44
      refine wl_v rfl rfl rfl (v_move rfl) ?_
      refine wl_on' rfl rfl g44 ?_
      refine wl_v rfl rfl rfl (v_move rfl) ?_
      refine wl_on' rfl rfl g44 ?_
      refine wl_v rfl rfl rfl (v_fb (o2 := 1) fa48_1 rfl rfl) ?_
      refine wl_on' rfl rfl g44 ?_
      refine wl_v rfl rfl rfl (v_load one3 rfl (Hn.at (by repeat constructor) rfl)) ?_
      refine wl_on' rfl rfl g44 ?_
      refine wl_v rfl rfl rfl (v_lookI Hn (by repeat constructor) Try.underlying116 zv3 (wf64 hwb) rfl rfl (fC_get _ _)) ?_
      refine wl_on' rfl rfl g44 ?_
      refine wl_v rfl rfl rfl (v_eql rfl rfl) ?_
      refine wl_on' rfl rfl g44 ?_
      refine wl_v rfl rfl rfl (v_move rfl) ?_
      refine wl_guard rfl rfl rfl (fun g51 => ?_) (fun g51 => ?_)
      ·have g51p := of_decide_eq_true g51
       refine wl_v rfl rfl rfl (v_move rfl) ?_
       refine wl_on' rfl rfl g51 ?_
       refine wl_v rfl rfl rfl (v_fb (o2 := 1) fa48_1 rfl rfl) ?_
       refine wl_on' rfl rfl g51 ?_
       refine wl_v rfl rfl rfl (v_load one3 rfl (Hn.at (by repeat constructor) rfl)) ?_
       refine wl_on' rfl rfl g51 ?_
       refine wl_v rfl rfl rfl (v_lss rfl rfl) ?_
       refine wl_on' rfl rfl g44 ?_
       refine wl_v rfl rfl rfl (v_pick_t rfl g51 rfl) ?_
       refine wl_v rfl rfl rfl (v_pick_f rfl g44 rfl) ?_
       refine wl_nil ?_
       refine wc_cond rfl (fun c3 => ?_) (fun c3 => ?_)
       ·have c3p := of_decide_eq_true c3
        refine wc_region ?_
        refine wl_v rfl rfl rfl (v_move rfl) ?_
        refine wl_v rfl rfl rfl (v_bld ba48 rfl (by repeat constructor)) ?_
        refine wl_store (vs := [_, _]) Hn (by repeat constructor) sz48 rfl rfl rfl rfl rfl (by (repeat constructor)) ?_
        intro w20 H21 hw20
        refine wl_nil ?_
        obtain ⟨hc0, rfl⟩ := fC_some hk3
        have hq := left_step hw hc0 hk4
        first
          | exact ⟨(left2, cn2, ⟨2, kx⟩, some (kx, _)), (sc rfl (sc rfl (sc rfl (sc rfl (sn _))))), ⟨by have h := hb.step hq; rwa [if_pos (by unfold better; simp only [Bool.or_eq_true, Bool.and_eq_true, decide_eq_true_eq]; omega)] at h, H21⟩, hk5⟩
          | exact ⟨(left2, cn2, best, some (kx, _)), (sc rfl (sc rfl (sc rfl (sc rfl (sn _))))), ⟨by have h := hb.step hq; rwa [if_neg (by unfold better; simp only [Bool.or_eq_true, Bool.and_eq_true, decide_eq_true_eq]; omega)] at h, H21⟩, hk5⟩
       ·have c3p := of_decide_eq_false c3
        refine wc_skip ?_
        obtain ⟨hc0, rfl⟩ := fC_some hk3
        have hq := left_step hw hc0 hk4
        first
          | exact ⟨(left2, cn2, ⟨2, kx⟩, some (kx, _)), (sc rfl (sc rfl (sc rfl (sc rfl (sn _))))), ⟨by have h := hb.step hq; rwa [if_pos (by unfold better; simp only [Bool.or_eq_true, Bool.and_eq_true, decide_eq_true_eq]; omega)] at h, Hn⟩, hk5⟩
          | exact ⟨(left2, cn2, best, some (kx, _)), (sc rfl (sc rfl (sc rfl (sc rfl (sn _))))), ⟨by have h := hb.step hq; rwa [if_neg (by unfold better; simp only [Bool.or_eq_true, Bool.and_eq_true, decide_eq_true_eq]; omega)] at h, Hn⟩, hk5⟩
      ·have g51p := of_decide_eq_false g51
       refine wl_off rfl rfl g51 rfl ?_
       refine wl_off rfl rfl g51 rfl ?_
       refine wl_off rfl rfl g51 rfl ?_
       refine wl_on' rfl rfl g44 ?_
       refine wl_v rfl rfl rfl (v_pick_f rfl g51 rfl) ?_
       refine wl_v rfl rfl rfl (v_pick_f rfl g44 rfl) ?_
       refine wl_nil ?_
       refine wc_cond_f rfl ?_
       refine wc_skip ?_
       obtain ⟨hc0, rfl⟩ := fC_some hk3
       have hq := left_step hw hc0 hk4
       first
         | exact ⟨(left2, cn2, ⟨2, kx⟩, some (kx, _)), (sc rfl (sc rfl (sc rfl (sc rfl (sn _))))), ⟨by have h := hb.step hq; rwa [if_pos (by unfold better; simp only [Bool.or_eq_true, Bool.and_eq_true, decide_eq_true_eq]; omega)] at h, Hn⟩, hk5⟩
         | exact ⟨(left2, cn2, best, some (kx, _)), (sc rfl (sc rfl (sc rfl (sc rfl (sn _))))), ⟨by have h := hb.step hq; rwa [if_neg (by unfold better; simp only [Bool.or_eq_true, Bool.and_eq_true, decide_eq_true_eq]; omega)] at h, Hn⟩, hk5⟩
     ·have g44p := of_decide_eq_true g44
      refine wl_off rfl rfl g44 rfl ?_
      refine wl_off rfl rfl g44 rfl ?_
      refine wl_off rfl rfl g44 rfl ?_
      refine wl_off rfl rfl g44 rfl ?_
      refine wl_off rfl rfl g44 rfl ?_
      refine wl_off rfl rfl g44 rfl ?_
      refine wl_offu rfl rfl rfl ?_
      refine wl_offu rfl rfl rfl ?_
      refine wl_offu rfl rfl rfl ?_
      refine wl_offu rfl rfl rfl ?_
      refine wl_off rfl rfl g44 rfl ?_
      refine wl_v rfl rfl rfl (v_pick_t rfl g44 rfl) ?_
      refine wl_nil ?_
      refine wc_cond_t rfl ?_
      refine wc_region ?_
      refine wl_v rfl rfl rfl (v_move rfl) ?_
      refine wl_v rfl rfl rfl (v_bld ba48 rfl (by repeat constructor)) ?_
      refine wl_store (vs := [_, _]) Hn (by repeat constructor) sz48 rfl rfl rfl rfl rfl (by (repeat constructor)) ?_
      intro w22 H23 hw22
      refine wl_nil ?_
      obtain ⟨hc0, rfl⟩ := fC_some hk3
      have hq := left_step hw hc0 hk4
      first
        | exact ⟨(left2, cn2, ⟨2, kx⟩, some (kx, _)), (sc rfl (sc rfl (sc rfl (sc rfl (sn _))))), ⟨by have h := hb.step hq; rwa [if_pos (by unfold better; simp only [Bool.or_eq_true, Bool.and_eq_true, decide_eq_true_eq]; omega)] at h, H23⟩, hk5⟩
        | exact ⟨(left2, cn2, best, some (kx, _)), (sc rfl (sc rfl (sc rfl (sc rfl (sn _))))), ⟨by have h := hb.step hq; rwa [if_neg (by unfold better; simp only [Bool.or_eq_true, Bool.and_eq_true, decide_eq_true_eq]; omega)] at h, H23⟩, hk5⟩
    ·have g36p := of_decide_eq_true g36
     refine wl_off rfl rfl g36 rfl ?_
     refine wl_off rfl rfl g36 rfl ?_
     refine wl_off rfl rfl g36 rfl ?_
     refine wl_off rfl rfl g36 rfl ?_
     refine wl_off rfl rfl g36 rfl ?_
     refine wl_v rfl rfl rfl (v_pick_t rfl g36 rfl) ?_
     refine wl_v rfl rfl rfl (v_move rfl) ?_
     refine wl_off rfl rfl rfl rfl ?_
     refine wl_off rfl rfl rfl rfl ?_
     refine wl_off rfl rfl rfl rfl ?_
     refine wl_off rfl rfl rfl rfl ?_
     refine wl_off rfl rfl rfl rfl ?_
     refine wl_off rfl rfl rfl rfl ?_
     refine wl_off rfl rfl rfl rfl ?_
     refine wl_offu rfl rfl rfl ?_
     refine wl_offu rfl rfl rfl ?_
     refine wl_offu rfl rfl rfl ?_
     refine wl_offu rfl rfl rfl ?_
     refine wl_off rfl rfl rfl rfl ?_
     refine wl_v rfl rfl rfl (v_pick_t rfl rfl rfl) ?_
     refine wl_nil ?_
     refine wc_cond_t rfl ?_
     refine wc_region ?_
     refine wl_v rfl rfl rfl (v_move rfl) ?_
     refine wl_v rfl rfl rfl (v_bld ba48 rfl (by repeat constructor)) ?_
     refine wl_store (vs := [_, _]) Hn (by repeat constructor) sz48 rfl rfl rfl rfl rfl (by (repeat constructor)) ?_
     intro w24 H25 hw24
     refine wl_nil ?_
     obtain ⟨hc0, rfl⟩ := fC_some hk3
     have hq := left_step hw hc0 hk4
     first
       | exact ⟨(left2, cn2, ⟨2, kx⟩, some (kx, _)), (sc rfl (sc rfl (sc rfl (sc rfl (sn _))))), ⟨by have h := hb.step hq; rwa [if_pos (by unfold better; simp only [Bool.or_eq_true, Bool.and_eq_true, decide_eq_true_eq]; omega)] at h, H25⟩, hk5⟩
       | exact ⟨(left2, cn2, best, some (kx, _)), (sc rfl (sc rfl (sc rfl (sc rfl (sn _))))), ⟨by have h := hb.step hq; rwa [if_neg (by unfold better; simp only [Bool.or_eq_true, Bool.and_eq_true, decide_eq_true_eq]; omega)] at h, H25⟩, hk5⟩
end Go.Proofs.Ytkpehkadammppaa.UsualW
