/- The law on packing. -/
import Derived.Test.YtkpehkadammppaaProg
import Derived.Test.YtkpehkadammppaaSameP
import Derived.Test.YtkpehkadammppaaPackW
import Derived.Test.YtkpehkadammppaaRPackW
import Derived.Test.YtkpehkadammppaaAliveW
set_option linter.unusedVariables false
set_option linter.unusedSimpArgs false
namespace Go.Proofs.Ytkpehkadammppaa.TPacks
open Go Go.RowKit Go.Proofs.YtkpehkadammppaaFx Go.Proofs.Ytkpehkadammppaa.SameP Go.Proofs.Ytkpehkadammppaa.PackW Go.Proofs.Ytkpehkadammppaa.RPackW Go.Proofs.Ytkpehkadammppaa.AliveW
theorem agg25 : Agg Try.prog 25 2 := agg_of Try.underlying25 (by kernel_rfl)
theorem agg41 : Agg Try.prog 41 9 := agg_of Try.underlying41 (by kernel_rfl)
theorem en15 : Enters Try.prog 15 := enters Try.func15 (by kernel_rfl) rfl
theorem en16 : Enters Try.prog 16 := enters Try.func16 (by kernel_rfl) rfl
theorem en17 : Enters Try.prog 17 := enters Try.func17 (by kernel_rfl) rfl
theorem en18 : Enters Try.prog 18 := enters Try.func18 (by kernel_rfl) rfl
theorem fa27_0 : FieldAt Try.prog 27 0 0 := field_at (sz := 1) Try.underlying27 rfl (by kernel_rfl) rfl
theorem fa27_1 : FieldAt Try.prog 27 1 2 := field_at (sz := 0) Try.underlying27 rfl (by kernel_rfl) rfl
theorem fa27_2 : FieldAt Try.prog 27 2 3 := field_at (sz := 0) Try.underlying27 rfl (by kernel_rfl) rfl
theorem fa27_3 : FieldAt Try.prog 27 3 4 := field_at (sz := 0) Try.underlying27 rfl (by kernel_rfl) rfl
theorem one3 : One Try.prog 3 := one_of Try.underlying3 rfl (by kernel_rfl)
theorem sz41 : ∀ W, (sizeOf 41).run Try.prog W = .ok 9 W := size_of (by kernel_rfl)
theorem zv41 : ∀ W, (zeroValue 41).run Try.prog W = .ok (.agg #[.int .i64 0, .int .i64 0, .slice none 0 0, .slice none 0 0, .slice none 0 0, .slice none 0 0, .slice none 0 0, .slice none 0 0, .slice none 0 0]) W := zero_of (by kernel_rfl)

/-- A table of bulk at most the bound. -/
structure Small (t : Tb) : Prop where
  ok : t.ok
  mr : ∀ r ∈ t.mv, r.length ≤ 1048576
  gr : ∀ r ∈ t.go, r.length ≤ 1048576
theorem Small.big {t : Tb} {k r p : Int} (h : Small t) (hg : TGood t k r p) : k ≤ 1048576 ∧ r ≤ 1048576 ∧ t.mv.length * k.toNat ≤ 1099511627776 ∧ t.go.length * r.toNat ≤ 1099511627776 := by
  obtain ⟨h1, h2, h3, h4⟩ := hg
  have h5 := h4 0 (by omega)
  have h6 := h5.1
  have h7 := h5.2.1
  have h8 := h.mr _ (getD_mem (z := []) (show 0 < t.mv.length by omega))
  have h9 := h.gr _ (getD_mem (z := []) (show 0 < t.go.length by omega))
  have e1 : k.toNat ≤ 1048576 := by omega
  have e2 : r.toNat ≤ 1048576 := by omega
  have e3 := Nat.mul_le_mul h2 e1
  have e4 := Nat.mul_le_mul (show t.go.length ≤ 4096 by omega) e2
  exact ⟨by omega, by omega, by omega, by omega⟩
theorem pk_lens {t : Tb} {k r p : Int} (h : Small t) : Lens (pkAns t k r p (ordF (t.mv.map pkRow)) (ordF (t.go.map goRow))) := by
  unfold pkAns
  split
  · rename_i hc
    obtain ⟨_, hg⟩ := checkF_zero hc
    obtain ⟨b1, b2, b3, b4⟩ := h.big hg
    have hgl := hg.2.2.1
    have q1 := h.ok.m
    have q2 := h.ok.g
    have hlc := laidF_len (rows := t.mv.map pkRow) (least := k) (fun x hx => ordF_mem hx) (ordF_len _) (fun x hx => (pm_ok hg x hx).1)
    have hgc := laidF_len (rows := t.go.map goRow) (least := r) (fun x hx => ordF_mem hx) (ordF_len _) (fun x hx => (gm_ok hg x hx).1)
    have hlb := laidF_len1 (t.mv.map pkRow) (ordF (t.mv.map pkRow)) k
    have hgb := laidF_len1 (t.go.map goRow) (ordF (t.go.map goRow)) r
    rw [List.length_map] at hlc hgc hlb hgb
    refine ⟨?_, ?_, ?_, ?_, ?_, ?_, ?_⟩ <;> simp only [packF]
    · rw [List.length_map]; exact q1
    · omega
    · omega
    · rw [cellsUpto_len (Nat.le_refl _)]; omega
    · omega
    · omega
    · rw [cellsUpto_len (Nat.le_refl _)]; omega
  · exact ⟨by decide, by decide, by decide, by decide, by decide, by decide, by decide⟩
theorem ownP_rd {W0 w : World} {L : List Ch} {a : PkA} {p : Pk} (H : Holds W0 L w) (h : Pm L (OwnP a p)) : p.rd w a := by
  have H1 := H.pm h
  exact ⟨H1.rrd (f := fMv) (e := 48) (A := a.d) (xs := p.dflt) (.here _ _ _), H1.rrd (f := fInt .i64) (e := 3) (A := a.b) (xs := p.base) (.there _ (.here _ _ _)), H1.rrd (f := fInt .i64) (e := 3) (A := a.c) (xs := p.check) (.there _ (.there _ (.here _ _ _))), H1.rrd (f := fMv) (e := 48) (A := a.e) (xs := p.cell) (.there _ (.there _ (.there _ (.here _ _ _)))),
    H1.rrd (f := fInt .i64) (e := 3) (A := a.gb) (xs := p.gbase) (.there _ (.there _ (.there _ (.there _ (.here _ _ _))))), H1.rrd (f := fInt .i64) (e := 3) (A := a.gc) (xs := p.gcheck) (.there _ (.there _ (.there _ (.there _ (.there _ (.here _ _ _)))))), H1.rrd (f := fInt .i64) (e := 3) (A := a.ge) (xs := p.gcell) (.there _ (.there _ (.there _ (.there _ (.there _ (.there _ (.here _ _ _)))))))⟩
theorem sorts {t : Tb} {k r p : Int} (h : Small t) : TGood t k r p → SortOk Try.prog (t.mv.map pkRow) (ordF (t.mv.map pkRow)) ∧ SortOk Try.prog (t.go.map goRow) (ordF (t.go.map goRow)) := fun hg =>
  ⟨sortOk (by rw [List.length_map]; exact h.ok.m), sortOk (by rw [List.length_map]; exact h.ok.g)⟩
theorem Small.big4 {t : Tb} {k r p : Int} (h : Small t) : TGood t k r p → t.mv.length * k.toNat ≤ 1099511627776 ∧ t.go.length * r.toNat ≤ 1099511627776 ∧ k ≤ 1099511627776 ∧ r ≤ 1099511627776 := fun hg => by
  have := h.big hg
  omega

set_option maxHeartbeats 1600000 in
set_option maxRecDepth 100000 in
theorem tablePacks_calls {A B : Option Addr} {ca cb : Nat} {t : Tb} {k r p : Int} {w : World} (hx : t.rd w A B) (hs : Small t) (ik : I64 k) (ir : I64 r) (ip : I64 p) :
    Calls Try.prog 4 #[.agg #[.slice A t.mv.length ca, .slice B t.go.length cb, .int .i64 k, .int .i64 r, .int .i64 p]] w fun e w' => ∃ v, e = .returned v ∧ v = .bool true ∧ Holds w [] w' := by
  refine calls_of Try.func4 rfl Try.ntmps4 rfl ?_
  have H := Holds.start w
  refine wc_seq ?_
  refine wc_region ?_
  refine wl_box (cs := [_, _, _, _, _]) H rfl rfl rfl ?_
  intro b1 w1 hb1 H2
  refine wl_v rfl rfl rfl (v_assign rfl) ?_
  refine wl_nil ?_
  refine wc_seq ?_
  refine wc_region ?_
  refine wl_v rfl rfl rfl (v_fb (o2 := 0) fa27_0 rfl rfl) ?_
  refine wl_v rfl rfl rfl (v_loadN (cs := [_, _]) agg25 rfl rfl (H2.atsN (k := 2) (by repeat constructor) rfl)) ?_
  refine wl_v rfl rfl rfl (v_fb (o2 := 2) fa27_1 rfl rfl) ?_
  refine wl_v rfl rfl rfl (v_load one3 rfl (H2.at (by repeat constructor) rfl)) ?_
  refine wl_v rfl rfl rfl (v_fb (o2 := 3) fa27_2 rfl rfl) ?_
  refine wl_v rfl rfl rfl (v_load one3 rfl (H2.at (by repeat constructor) rfl)) ?_
  refine wl_v rfl rfl rfl (v_fb (o2 := 4) fa27_3 rfl rfl) ?_
  refine wl_v rfl rfl rfl (v_load one3 rfl (H2.at (by repeat constructor) rfl)) ?_
  refine wl_call en16 rfl rfl (pack_calls _ _ (hx.below H2.old) hs.ok hs.big4 (sorts hs)) ?_
  rintro _ w3 ⟨a1, rfl, Hc⟩
  have H4 := H2.call Hc
  refine wl_v rfl rfl rfl (v_move rfl) ?_
  refine wl_v rfl rfl rfl (v_extract rfl rfl) ?_
  refine wl_v rfl rfl rfl (v_extract rfl rfl) ?_
  refine wl_alloc (cs := [.int .i64 0, .int .i64 0, .slice none 0 0, .slice none 0 0, .slice none 0 0, .slice none 0 0, .slice none 0 0, .slice none 0 0, .slice none 0 0]) H4 rfl zv41 rfl ?_
  intro b3 w5 hb3 H6
  refine wl_store (vs := [_, _, _, _, _, _, _, _, _]) H6 (by repeat constructor) sz41 rfl rfl rfl rfl rfl (by repeat constructor) ?_
  intro w7 H8 hw7
  refine wl_v rfl rfl rfl (v_assign rfl) ?_
  refine wl_nil ?_
  refine wc_seq ?_
  refine wc_region ?_
  refine wl_v rfl rfl rfl (v_fb (o2 := 0) fa27_0 rfl rfl) ?_
  refine wl_v rfl rfl rfl (v_loadN (cs := [_, _]) agg25 rfl rfl (H8.atsN (k := 2) (by repeat constructor) rfl)) ?_
  refine wl_v rfl rfl rfl (v_fb (o2 := 2) fa27_1 rfl rfl) ?_
  refine wl_v rfl rfl rfl (v_load one3 rfl (H8.at (by repeat constructor) rfl)) ?_
  refine wl_v rfl rfl rfl (v_fb (o2 := 3) fa27_2 rfl rfl) ?_
  refine wl_v rfl rfl rfl (v_load one3 rfl (H8.at (by repeat constructor) rfl)) ?_
  refine wl_v rfl rfl rfl (v_fb (o2 := 4) fa27_3 rfl rfl) ?_
  refine wl_v rfl rfl rfl (v_load one3 rfl (H8.at (by repeat constructor) rfl)) ?_
  refine wl_call en17 rfl rfl (rpack_calls (hx.below H8.old) hs.ok ik ir ip hs.big4) ?_
  rintro _ w9 ⟨a2, rfl, Hc⟩
  have H10 := H8.call Hc
  refine wl_v rfl rfl rfl (v_move rfl) ?_
  refine wl_v rfl rfl rfl (v_extract rfl rfl) ?_
  refine wl_v rfl rfl rfl (v_extract rfl rfl) ?_
  refine wl_alloc (cs := [.int .i64 0, .int .i64 0, .slice none 0 0, .slice none 0 0, .slice none 0 0, .slice none 0 0, .slice none 0 0, .slice none 0 0, .slice none 0 0]) H10 rfl zv41 rfl ?_
  intro b5 w11 hb5 H12
  refine wl_store (vs := [_, _, _, _, _, _, _, _, _]) H12 (by repeat constructor) sz41 rfl rfl rfl rfl rfl (by repeat constructor) ?_
  intro w13 H14 hw13
  refine wl_v rfl rfl rfl (v_assign rfl) ?_
  refine wl_nil ?_
  refine wc_seq ?_
  refine wc_region ?_
  refine wl_v rfl rfl rfl (v_loadN agg41 rfl rfl (H14.ats (by repeat constructor))) ?_
  refine wl_v rfl rfl rfl (v_loadN agg41 rfl rfl (H14.ats (by repeat constructor))) ?_
  refine wl_call en18 rfl rfl (samePacked_calls (ownP_rd (a := a1) (p := (pkAns t k r p (ordF (t.mv.map pkRow)) (ordF (t.go.map goRow)))) H14 (by repeat constructor)) (ownP_rd (a := a2) (p := (pkAns t k r p (ordF (t.mv.map pkRow)) (ordF (t.go.map goRow)))) H14 (by repeat constructor)) (pk_lens hs) (pk_lens hs)) ?_
  rintro _ w15 ⟨rfl, Hc⟩
  have H16 := H14.call Hc
  refine wl_v rfl rfl rfl (v_move rfl) ?_
  refine wl_guard rfl rfl rfl (fun g34 => ?_) (fun g34 => ?_)
  · have g34p := of_decide_eq_true g34
    refine wl_v rfl rfl rfl (v_move rfl) ?_
    refine wl_on' rfl rfl g34 ?_
    refine wl_v rfl rfl rfl (v_move rfl) ?_
    refine wl_on' rfl rfl g34 ?_
    refine wl_v rfl rfl rfl (v_eql rfl rfl) ?_
    refine wl_v rfl rfl rfl (v_pick_t rfl g34 rfl) ?_
    refine wl_v rfl rfl rfl (v_move rfl) ?_
    refine wl_guard rfl rfl rfl (fun g39 => ?_) (fun g39 => ?_)
    · have g39p := of_decide_eq_true g39
      refine wl_call en15 rfl rfl (alive_calls) ?_
      rintro _ w17 ⟨rfl, Hc⟩
      have H18 := H16.call Hc
      refine wl_v rfl rfl rfl (v_pick_t rfl g39 rfl) ?_
      refine wl_v rfl rfl rfl (v_assign rfl) ?_
      refine wl_nil ?_
      refine wc_ret ?_
      exact ⟨_, res1 rfl rfl, rfl, H18.pm (Pm.nil _)⟩
    · have g39p := of_decide_eq_false g39
      exact absurd rfl g39p
  · have g34p := of_decide_eq_false g34
    exact absurd rfl g34p
end Go.Proofs.Ytkpehkadammppaa.TPacks
