/- The law on what may be written over. -/
import Derived.Test.YtkpehkadammppaaProg
import Derived.Test.YtkpehkadammppaaTPacks
import Derived.Test.YtkpehkadammppaaFocus
import Derived.Test.YtkpehkadammppaaDfltW
import Derived.Test.YtkpehkadammppaaChks
set_option linter.unusedVariables false
set_option linter.unusedSimpArgs false
namespace Go.Proofs.Ytkpehkadammppaa.TOwn
open Go Go.RowKit Go.Proofs.YtkpehkadammppaaFx Go.Proofs.Ytkpehkadammppaa.TPacks Go.Proofs.Ytkpehkadammppaa.SameP Go.Proofs.Ytkpehkadammppaa.PackW Go.Proofs.Ytkpehkadammppaa.RPackW Go.Proofs.Ytkpehkadammppaa.AliveW Go.Proofs.Ytkpehkadammppaa.DfltW Go.Proofs.Ytkpehkadammppaa.TabA
theorem agg25 : Agg Try.prog 25 2 := agg_of Try.underlying25 (by kernel_rfl)
theorem agg41 : Agg Try.prog 41 9 := agg_of Try.underlying41 (by kernel_rfl)
theorem ba48 : BuildAt Try.prog 48 [.int .i64 0, .int .i64 0] [(0, 1), (1, 1)] := build_at Try.underlying48 (by kernel_rfl) (by kernel_rfl)
theorem en10 : Enters Try.prog 10 := enters Try.func10 (by kernel_rfl) rfl
theorem en11 : Enters Try.prog 11 := enters Try.func11 (by kernel_rfl) rfl
theorem en14 : Enters Try.prog 14 := enters Try.func14 (by kernel_rfl) rfl
theorem en15 : Enters Try.prog 15 := enters Try.func15 (by kernel_rfl) rfl
theorem en16 : Enters Try.prog 16 := enters Try.func16 (by kernel_rfl) rfl
theorem en17 : Enters Try.prog 17 := enters Try.func17 (by kernel_rfl) rfl
theorem en18 : Enters Try.prog 18 := enters Try.func18 (by kernel_rfl) rfl
theorem fa25_0 : FieldAt Try.prog 25 0 0 := field_at (sz := 0) Try.underlying25 rfl (by kernel_rfl) rfl
theorem fa25_1 : FieldAt Try.prog 25 1 1 := field_at (sz := 0) Try.underlying25 rfl (by kernel_rfl) rfl
theorem fa27_0 : FieldAt Try.prog 27 0 0 := field_at (sz := 1) Try.underlying27 rfl (by kernel_rfl) rfl
theorem fa27_1 : FieldAt Try.prog 27 1 2 := field_at (sz := 0) Try.underlying27 rfl (by kernel_rfl) rfl
theorem fa27_2 : FieldAt Try.prog 27 2 3 := field_at (sz := 0) Try.underlying27 rfl (by kernel_rfl) rfl
theorem fa27_3 : FieldAt Try.prog 27 3 4 := field_at (sz := 0) Try.underlying27 rfl (by kernel_rfl) rfl
theorem fa41_4 : FieldAt Try.prog 41 4 4 := field_at (sz := 0) Try.underlying41 rfl (by kernel_rfl) rfl
theorem fa41_5 : FieldAt Try.prog 41 5 5 := field_at (sz := 0) Try.underlying41 rfl (by kernel_rfl) rfl
theorem fa48_1 : FieldAt Try.prog 48 1 1 := field_at (sz := 0) Try.underlying48 rfl (by kernel_rfl) rfl
theorem info48 : (Try.prog.info? 48).map (fun i => (i.zero, i.size, i.bytes)) = some (some (.agg #[.int .i64 0, .int .i64 0]), 2, 16) := by kernel_rfl
theorem one22 : One Try.prog 22 := one_of Try.underlying22 rfl (by kernel_rfl)
theorem one23 : One Try.prog 23 := one_of Try.underlying23 rfl (by kernel_rfl)
theorem one3 : One Try.prog 3 := one_of Try.underlying3 rfl (by kernel_rfl)
theorem one38 : One Try.prog 38 := one_of Try.underlying38 rfl (by kernel_rfl)
theorem one39 : One Try.prog 39 := one_of Try.underlying39 rfl (by kernel_rfl)
theorem sz25 : ∀ W, (sizeOf 25).run Try.prog W = .ok 2 W := size_of (by kernel_rfl)
theorem sz3 : ∀ W, (sizeOf 3).run Try.prog W = .ok 1 W := size_of (by kernel_rfl)
theorem sz38 : ∀ W, (sizeOf 38).run Try.prog W = .ok 1 W := size_of (by kernel_rfl)
theorem sz39 : ∀ W, (sizeOf 39).run Try.prog W = .ok 1 W := size_of (by kernel_rfl)
theorem sz41 : ∀ W, (sizeOf 41).run Try.prog W = .ok 9 W := size_of (by kernel_rfl)
theorem sz48 : ∀ W, (sizeOf 48).run Try.prog W = .ok 2 W := size_of (by kernel_rfl)
theorem zv25 : ∀ W, (zeroValue 25).run Try.prog W = .ok (.agg #[.slice none 0 0, .slice none 0 0]) W := zero_of (by kernel_rfl)
theorem zv41 : ∀ W, (zeroValue 41).run Try.prog W = .ok (.agg #[.int .i64 0, .int .i64 0, .slice none 0 0, .slice none 0 0, .slice none 0 0, .slice none 0 0, .slice none 0 0, .slice none 0 0, .slice none 0 0]) W := zero_of (by kernel_rfl)
theorem zv48 : ∀ W, (zeroValue 48).run Try.prog W = .ok (.agg #[.int .i64 0, .int .i64 0]) W := zero_of (by kernel_rfl)

set_option maxHeartbeats 1600000 in
set_option maxRecDepth 100000 in
theorem tableOwn_calls {A B : Option Addr} {ca cb : Nat} {t : Tb} {k r p : Int} {w : World} (hx : t.rd w A B) (hs : Small t) (ik : I64 k) (ir : I64 r) (ip : I64 p) :
    Calls Try.prog 5 #[.agg #[.slice A t.mv.length ca, .slice B t.go.length cb, .int .i64 k, .int .i64 r, .int .i64 p]] w fun e w' => ∃ v, e = .returned v ∧ v = .bool true ∧ Holds w [] w' := by
  have hD := dfAns_ok hs.ok
  have hdm := hD.m'
  have hdg := hD.g'
  have hpl := pk_lens (k := k) (r := r) (p := p) hs
  have hpe := hpl.e
  have hpc := hpl.c
  refine calls_of Try.func5 rfl Try.ntmps5 rfl ?_
  have H := Holds.start w
  refine wc_seq ?_
  refine wc_region ?_
  refine wl_box (cs := [_, _, _, _, _]) H rfl rfl rfl ?_
  intro b1 w1 hb1 H2
  refine wl_v rfl rfl rfl (v_assign rfl) ?_
  refine wl_nil ?_
  refine wc_seq ?_
  refine wc_seq ?_
  refine wc_region ?_
  refine wl_call en15 rfl rfl (alive_calls) ?_
  rintro _ w3 ⟨rfl, Hc⟩
  have H4 := H2.call Hc
  refine wl_v rfl rfl rfl (v_not rfl) ?_
  refine wl_nil ?_
  refine wc_cond_f rfl ?_
  refine wc_skip ?_
  refine wc_seq ?_
  refine wc_region ?_
  refine wl_v rfl rfl rfl (v_fb (o2 := 0) fa27_0 rfl rfl) ?_
  refine wl_v rfl rfl rfl (v_loadN (cs := [_, _]) agg25 rfl rfl (H4.atsN (k := 2) (by repeat constructor) rfl)) ?_
  refine wl_call en10 rfl rfl (defaults_calls (hx.below H4.old) hs.ok) ?_
  rintro _ w5 ⟨v1, v2, rfl, Hc⟩
  have H6 := H4.call Hc
  obtain ⟨A1, cz1, rfl, _⟩ := H6.rr (f := fMv) (e := 38) (e2 := 48) (v := v1) (xss := (dfAns t).mv) (by repeat constructor)
  obtain ⟨A2, cz2, rfl, _⟩ := H6.rr (f := fInt .i64) (e := 39) (e2 := 3) (v := v2) (xss := (dfAns t).go) (by repeat constructor)
  refine wl_v rfl rfl rfl (v_move rfl) ?_
  refine wl_v rfl rfl rfl (v_extract rfl rfl) ?_
  refine wl_v rfl rfl rfl (v_extract rfl rfl) ?_
  refine wl_alloc (cs := [.slice none 0 0, .slice none 0 0]) H6 rfl zv25 rfl ?_
  intro b3 w7 hb3 H8
  refine wl_store (vs := [_, _]) H8 (by repeat constructor) sz25 rfl rfl rfl rfl rfl (by repeat constructor) ?_
  intro w9 H10 hw9
  refine wl_v rfl rfl rfl (v_assign rfl) ?_
  refine wl_nil ?_
  refine wc_seq ?_
  refine wc_region ?_
  refine wl_v rfl rfl rfl (v_fb (o2 := 0) fa27_0 rfl rfl) ?_
  refine wl_v rfl rfl rfl (v_loadN (cs := [_, _]) agg25 rfl rfl (H10.atsN (k := 2) (by repeat constructor) rfl)) ?_
  refine wl_call en10 rfl rfl (defaults_calls (hx.below H10.old) hs.ok) ?_
  rintro _ w11 ⟨v1, v2, rfl, Hc⟩
  have H12 := H10.call Hc
  obtain ⟨A3, cz3, rfl, _⟩ := H12.rr (f := fMv) (e := 38) (e2 := 48) (v := v1) (xss := (dfAns t).mv) (by repeat constructor)
  obtain ⟨A4, cz4, rfl, _⟩ := H12.rr (f := fInt .i64) (e := 39) (e2 := 3) (v := v2) (xss := (dfAns t).go) (by repeat constructor)
  refine wl_v rfl rfl rfl (v_move rfl) ?_
  refine wl_v rfl rfl rfl (v_extract rfl rfl) ?_
  refine wl_v rfl rfl rfl (v_extract rfl rfl) ?_
  refine wl_alloc (cs := [.slice none 0 0, .slice none 0 0]) H12 rfl zv25 rfl ?_
  intro b5 w13 hb5 H14
  refine wl_store (vs := [_, _]) H14 (by repeat constructor) sz25 rfl rfl rfl rfl rfl (by repeat constructor) ?_
  intro w15 H16 hw15
  refine wl_v rfl rfl rfl (v_assign rfl) ?_
  refine wl_nil ?_
  refine wc_seq ?_
  refine wc_seq ?_
  refine wc_region ?_
  refine wl_v rfl rfl rfl (v_fb (o2 := 0) fa25_0 rfl rfl) ?_
  refine wl_v rfl rfl rfl (v_load one22 rfl (H16.at (by repeat constructor) rfl)) ?_
  refine wl_v rfl rfl rfl (v_len Try.underlying22 rfl) ?_
  refine wl_v rfl rfl rfl (v_move rfl) ?_
  refine wl_nil ?_
  refine wc_block ?_
  refine wc_loop (σ := Nat × List (List Mv)) (fun s => [(1, .pointer (some ⟨b1, 0, none⟩)), (5, .pointer (some ⟨b5, 0, none⟩)), (3, .pointer (some ⟨b3, 0, none⟩)), (37, .int .i64 (dfAns t).mv.length), (38, .int .i64 s.1)]) (fun s W => (s.1 ≤ (dfAns t).mv.length ∧ OLs (dfAns t).mv.length s.2) ∧ Holds w [RR fMv 38 48 (.slice A1 (dfAns t).mv.length cz1) s.2, RR (fInt .i64) 39 3 (.slice A2 (dfAns t).go.length cz2) (dfAns t).go, Blk b3 25 [.slice A1 (dfAns t).mv.length cz1, .slice A2 (dfAns t).go.length cz2], Blk b5 25 [.slice A3 (dfAns t).mv.length cz3, .slice A4 (dfAns t).go.length cz4], RR fMv 38 48 (.slice A3 (dfAns t).mv.length cz3) (dfAns t).mv, RR (fInt .i64) 39 3 (.slice A4 (dfAns t).go.length cz4) (dfAns t).go, Blk b1 27 [.slice A t.mv.length ca, .slice B t.go.length cb, .int .i64 k, .int .i64 r, .int .i64 p]] W) (fun s => (dfAns t).mv.length - s.1) (0, (dfAns t).mv) (sc rfl (sc rfl (sc rfl (sc rfl (sc rfl (sn _)))))) ⟨⟨Nat.zero_le _, ⟨rfl, fun r hr => (hD.mr r hr).1⟩⟩, H16.pm (by repeat constructor)⟩ ?_
  rintro ⟨i, xss⟩ W0 ⟨⟨hi, hol⟩, H⟩
  dsimp only at hi hol H ⊢
  have hxl := hol.len
  refine wc_seq ?_
  refine wc_region ?_
  refine wl_v rfl rfl rfl (v_lss rfl rfl) ?_
  refine wl_nil ?_
  refine wc_seq ?_
  refine wc_cond rfl (fun c1 => ?_) (fun c1 => ?_)
  · have c1p := of_decide_eq_true c1
    refine wc_skip ?_
    refine wc_seq ?_
    refine wc_block ?_
    refine wc_seq ?_
    refine wc_region ?_
    refine wl_v rfl rfl rfl (v_move rfl) ?_
    refine wl_v rfl rfl rfl (v_assign rfl) ?_
    refine wl_nil ?_
    refine wc_seq ?_
    refine wc_seq ?_
    refine wc_region ?_
    refine wl_v rfl rfl rfl (v_fb (o2 := 0) fa25_0 rfl rfl) ?_
    refine wl_v rfl rfl rfl (v_load one22 rfl (H.at (by repeat constructor) rfl)) ?_
    refine wl_v rfl rfl rfl (v_move rfl) ?_
    refine wl_v rfl rfl rfl (v_idx Try.underlying22 sz38 (fun h => (H.rrR (f := fMv) (e := 38) (e2 := 48) (A := A1) (xss := xss) (by repeat constructor)).ad (by omega)) rfl rfl (by omega) (by omega)) ?_
    obtain ⟨B45, cp45, hc45, hl45, hr45⟩ := (H.rrR (f := fMv) (e := 38) (e2 := 48) (A := A1) (xss := xss) (by repeat constructor)).atSlN (i := i) (by omega)
    refine wl_v rfl rfl rfl (v_load one38 rfl (hc45)) ?_
    refine wl_v rfl rfl rfl (v_len Try.underlying38 rfl) ?_
    refine wl_v rfl rfl rfl (v_move rfl) ?_
    refine wl_nil ?_
    refine wc_block ?_
    refine wc_loop (σ := Nat × List (List Mv)) (fun s => [(1, .pointer (some ⟨b1, 0, none⟩)), (5, .pointer (some ⟨b5, 0, none⟩)), (3, .pointer (some ⟨b3, 0, none⟩)), (37, .int .i64 (dfAns t).mv.length), (38, .int .i64 i), (7, .int .i64 i), (46, .int .i64 (xss.getD i []).length), (47, .int .i64 s.1)]) (fun s W => (s.1 ≤ (xss.getD i []).length ∧ OLs (dfAns t).mv.length s.2 ∧ (s.2.getD i []).length = (xss.getD i []).length) ∧ Holds w [RR fMv 38 48 (.slice A1 (dfAns t).mv.length cz1) s.2, RR (fInt .i64) 39 3 (.slice A2 (dfAns t).go.length cz2) (dfAns t).go, Blk b3 25 [.slice A1 (dfAns t).mv.length cz1, .slice A2 (dfAns t).go.length cz2], Blk b5 25 [.slice A3 (dfAns t).mv.length cz3, .slice A4 (dfAns t).go.length cz4], RR fMv 38 48 (.slice A3 (dfAns t).mv.length cz3) (dfAns t).mv, RR (fInt .i64) 39 3 (.slice A4 (dfAns t).go.length cz4) (dfAns t).go, Blk b1 27 [.slice A t.mv.length ca, .slice B t.go.length cb, .int .i64 k, .int .i64 r, .int .i64 p]] W) (fun s => (xss.getD i []).length - s.1) (0, xss) (sc rfl (sc rfl (sc rfl (sc rfl (sc rfl (sc rfl (sc rfl (sc rfl (sn _))))))))) ⟨⟨Nat.zero_le _, hol, rfl⟩, H.pm (by repeat constructor)⟩ ?_
    rintro ⟨q, yss⟩ W1 ⟨⟨hq, ho, hql⟩, H⟩
    dsimp only at hq ho hql H ⊢
    have hyl := ho.len
    have hyr := ho.row (i := i) (by omega)
    refine wc_seq ?_
    refine wc_region ?_
    refine wl_v rfl rfl rfl (v_lss rfl rfl) ?_
    refine wl_nil ?_
    refine wc_seq ?_
    refine wc_cond rfl (fun c2 => ?_) (fun c2 => ?_)
    · have c2p := of_decide_eq_true c2
      refine wc_skip ?_
      refine wc_seq ?_
      refine wc_block ?_
      refine wc_seq ?_
      refine wc_region ?_
      refine wl_v rfl rfl rfl (v_move rfl) ?_
      refine wl_v rfl rfl rfl (v_assign rfl) ?_
      refine wl_nil ?_
      refine wc_region ?_
      refine wl_v rfl rfl rfl (v_fb (o2 := 0) fa25_0 rfl rfl) ?_
      refine wl_v rfl rfl rfl (v_load one22 rfl (H.at (by repeat constructor) rfl)) ?_
      refine wl_v rfl rfl rfl (v_move rfl) ?_
      refine wl_v rfl rfl rfl (v_idx Try.underlying22 sz38 (fun h => (H.rrR (f := fMv) (e := 38) (e2 := 48) (A := A1) (xss := yss) (by repeat constructor)).ad (by omega)) rfl rfl (by omega) (by omega)) ?_
      obtain ⟨B54, cp54, R54, hc54, H17, hback⟩ := (H.turn (A := RR fMv 38 48 (.slice A1 (dfAns t).mv.length cz1) yss) (by repeat constructor)).rrAt (i := i) (by omega)
      refine wl_v rfl rfl rfl (v_load one38 rfl hc54) ?_
      refine wl_v rfl rfl rfl (v_move rfl) ?_
      refine wl_v rfl rfl rfl (v_idx Try.underlying38 sz48 (H17.rrd (f := fMv) (e := 48) (A := B54) (xs := (yss.getD i [])) (.here _ _ _)).ad rfl rfl (by omega) (by omega)) ?_
      refine wl_v rfl rfl rfl (v_fp fa48_1 rfl) ?_
      refine wl_storeC (f := fMv) (xs := yss.getD i []) (i := (q : Int)) (k := 1) (u := .int .i64 77) (z0 := mv0) (x' := ⟨((yss.getD i []).getD q mv0).d, 77⟩) H17 (.here _ _ _) sz3 rfl rfl rfl rfl (by omega) (by omega) (by decide) (by rw [Int.toNat_natCast]; rfl) ?_
      intro w18 H180
      have H18 := hback _ _ H180
      obtain ⟨ho1, ho2⟩ := ho.set (i := i) (ys := (yss.getD i []).set (q : Int).toNat ⟨((yss.getD i []).getD q mv0).d, 77⟩) (by omega) (by rw [List.length_set])
      refine wl_nil ?_
      refine wc_region ?_
      refine wl_v rfl rfl rfl (v_addi rfl rfl (by omega)) ?_
      refine wl_v rfl rfl rfl (v_move rfl) ?_
      refine wl_nil ?_
      exact ⟨(q + 1, yss.set i ((yss.getD i []).set (q : Int).toNat ⟨((yss.getD i []).getD q mv0).d, 77⟩)), (sc rfl (sc rfl (sc rfl (sc rfl (sc rfl (sc rfl (sc rfl (sc rfl (sn _))))))))), ⟨⟨by dsimp only; omega, ho1, by dsimp only; rw [ho2]; exact hql⟩, H18.pm (by repeat constructor)⟩, by dsimp only; omega⟩
    · have c2p := of_decide_eq_false c2
      refine wc_exit ?_
      refine wc_region ?_
      refine wl_v rfl rfl rfl (v_fb (o2 := 0) fa25_0 rfl rfl) ?_
      refine wl_v rfl rfl rfl (v_load one22 rfl (H.at (by repeat constructor) rfl)) ?_
      refine wl_v rfl rfl rfl (v_move rfl) ?_
      refine wl_v rfl rfl rfl (v_idx Try.underlying22 sz38 (fun h => (H.rrR (f := fMv) (e := 38) (e2 := 48) (A := A1) (xss := yss) (by repeat constructor)).ad (by omega)) rfl rfl (by omega) (by omega)) ?_
      obtain ⟨B63, cp63, R63, hc63, H19, hback⟩ := (H.turn (A := RR fMv 38 48 (.slice A1 (dfAns t).mv.length cz1) yss) (by repeat constructor)).rrAt (i := i) (by omega)
      refine wl_v rfl rfl rfl (v_load one38 rfl hc63) ?_
      refine wl_v rfl rfl rfl (v_bld ba48 rfl (by repeat constructor)) ?_
      refine wl_v rfl rfl rfl (v_bld ba48 rfl (by repeat constructor)) ?_
      refine wl_slit (v := .agg #[.int .i64 0, .int .i64 0]) (z := [.int .i64 0, .int .i64 0, .int .i64 0, .int .i64 0]) (cs := [.int .i64 0, .int .i64 0, .int .i64 0, .int .i64 0]) (sz := 2) H19 rfl Try.underlying38 sz48 zv48 (by decide) (by decide) (by kernel_rfl) rfl (by repeat constructor) ?_
      intro b66 w20 hb66 H20 hs20
      refine wl_appDrop (f := fMv) (xs := yss.getD i []) (m := 2) (A := some ⟨b66, 0, none⟩) (news := [.int .i64 0, .int .i64 0, .int .i64 0, .int .i64 0]) H20 (by repeat constructor) rfl Try.underlying38 info48 rfl (by decide) rfl rfl (fun _ => rfl) rfl (fun j u hu => H20.ats (by repeat constructor) j u hu) (fun u hu => by simp only [List.mem_cons, List.not_mem_nil, or_false, or_self] at hu; subst hu; rfl) (by omega) (by decide) (by decide) ?_
      intro A67 w21 H210 hs21
      have H21 := hback _ _ H210.tail
      refine wl_nil ?_
      refine wc_region ?_
      refine wl_v rfl rfl rfl (v_addi rfl rfl (by omega)) ?_
      refine wl_v rfl rfl rfl (v_move rfl) ?_
      refine wl_nil ?_
      exact ⟨(i + 1, yss.set i (yss.getD i [])), (sc rfl (sc rfl (sc rfl (sc rfl (sc rfl (sn _)))))), ⟨⟨by dsimp only; omega, (ho.set (by omega) rfl).1⟩, H21.pm (by repeat constructor)⟩, by dsimp only; omega⟩
  · have c1p := of_decide_eq_false c1
    refine wc_exit ?_
    refine wc_seq ?_
    refine wc_seq ?_
    refine wc_region ?_
    refine wl_v rfl rfl rfl (v_fb (o2 := 1) fa25_1 rfl rfl) ?_
    refine wl_v rfl rfl rfl (v_load one23 rfl (H.at (by repeat constructor) rfl)) ?_
    refine wl_v rfl rfl rfl (v_len Try.underlying23 rfl) ?_
    refine wl_v rfl rfl rfl (v_move rfl) ?_
    refine wl_nil ?_
    refine wc_block ?_
    refine wc_loop (σ := Nat × List (List Int)) (fun s => [(1, .pointer (some ⟨b1, 0, none⟩)), (5, .pointer (some ⟨b5, 0, none⟩)), (3, .pointer (some ⟨b3, 0, none⟩)), (71, .int .i64 (dfAns t).go.length), (72, .int .i64 s.1)]) (fun s W => (s.1 ≤ (dfAns t).go.length ∧ OLs (dfAns t).go.length s.2) ∧ Holds w [RR (fInt .i64) 39 3 (.slice A2 (dfAns t).go.length cz2) s.2, Blk b3 25 [.slice A1 (dfAns t).mv.length cz1, .slice A2 (dfAns t).go.length cz2], Blk b5 25 [.slice A3 (dfAns t).mv.length cz3, .slice A4 (dfAns t).go.length cz4], RR fMv 38 48 (.slice A3 (dfAns t).mv.length cz3) (dfAns t).mv, RR (fInt .i64) 39 3 (.slice A4 (dfAns t).go.length cz4) (dfAns t).go, Blk b1 27 [.slice A t.mv.length ca, .slice B t.go.length cb, .int .i64 k, .int .i64 r, .int .i64 p]] W) (fun s => (dfAns t).go.length - s.1) (0, (dfAns t).go) (sc rfl (sc rfl (sc rfl (sc rfl (sc rfl (sn _)))))) ⟨⟨Nat.zero_le _, ⟨rfl, fun r hr => (hD.gr r hr).1⟩⟩, H.pm (by repeat constructor)⟩ ?_
    rintro ⟨i, xss⟩ W2 ⟨⟨hi, hol⟩, H⟩
    dsimp only at hi hol H ⊢
    have hxl := hol.len
    refine wc_seq ?_
    refine wc_region ?_
    refine wl_v rfl rfl rfl (v_lss rfl rfl) ?_
    refine wl_nil ?_
    refine wc_seq ?_
    refine wc_cond rfl (fun c3 => ?_) (fun c3 => ?_)
    · have c3p := of_decide_eq_true c3
      refine wc_skip ?_
      refine wc_seq ?_
      refine wc_block ?_
      refine wc_seq ?_
      refine wc_region ?_
      refine wl_v rfl rfl rfl (v_move rfl) ?_
      refine wl_v rfl rfl rfl (v_assign rfl) ?_
      refine wl_nil ?_
      refine wc_seq ?_
      refine wc_region ?_
      refine wl_v rfl rfl rfl (v_fb (o2 := 1) fa25_1 rfl rfl) ?_
      refine wl_v rfl rfl rfl (v_load one23 rfl (H.at (by repeat constructor) rfl)) ?_
      refine wl_v rfl rfl rfl (v_move rfl) ?_
      refine wl_v rfl rfl rfl (v_idx Try.underlying23 sz39 (fun h => (H.rrR (f := fInt .i64) (e := 39) (e2 := 3) (A := A2) (xss := xss) (by repeat constructor)).ad (by omega)) rfl rfl (by omega) (by omega)) ?_
      obtain ⟨B79, cp79, hc79, hl79, hr79⟩ := (H.rrR (f := fInt .i64) (e := 39) (e2 := 3) (A := A2) (xss := xss) (by repeat constructor)).atSlN (i := i) (by omega)
      refine wl_v rfl rfl rfl (v_load one39 rfl (hc79)) ?_
      refine wl_v rfl rfl rfl (v_len Try.underlying39 rfl) ?_
      refine wl_v rfl rfl rfl (v_move rfl) ?_
      refine wl_nil ?_
      refine wc_block ?_
      refine wc_loop (σ := Nat × List (List Int)) (fun s => [(1, .pointer (some ⟨b1, 0, none⟩)), (5, .pointer (some ⟨b5, 0, none⟩)), (3, .pointer (some ⟨b3, 0, none⟩)), (71, .int .i64 (dfAns t).go.length), (72, .int .i64 i), (9, .int .i64 i), (80, .int .i64 (xss.getD i []).length), (81, .int .i64 s.1)]) (fun s W => (s.1 ≤ (xss.getD i []).length ∧ OLs (dfAns t).go.length s.2 ∧ (s.2.getD i []).length = (xss.getD i []).length) ∧ Holds w [RR (fInt .i64) 39 3 (.slice A2 (dfAns t).go.length cz2) s.2, Blk b3 25 [.slice A1 (dfAns t).mv.length cz1, .slice A2 (dfAns t).go.length cz2], Blk b5 25 [.slice A3 (dfAns t).mv.length cz3, .slice A4 (dfAns t).go.length cz4], RR fMv 38 48 (.slice A3 (dfAns t).mv.length cz3) (dfAns t).mv, RR (fInt .i64) 39 3 (.slice A4 (dfAns t).go.length cz4) (dfAns t).go, Blk b1 27 [.slice A t.mv.length ca, .slice B t.go.length cb, .int .i64 k, .int .i64 r, .int .i64 p]] W) (fun s => (xss.getD i []).length - s.1) (0, xss) (sc rfl (sc rfl (sc rfl (sc rfl (sc rfl (sc rfl (sc rfl (sc rfl (sn _))))))))) ⟨⟨Nat.zero_le _, hol, rfl⟩, H.pm (by repeat constructor)⟩ ?_
      rintro ⟨q, yss⟩ W3 ⟨⟨hq, ho, hql⟩, H⟩
      dsimp only at hq ho hql H ⊢
      have hyl := ho.len
      have hyr := ho.row (i := i) (by omega)
      refine wc_seq ?_
      refine wc_region ?_
      refine wl_v rfl rfl rfl (v_lss rfl rfl) ?_
      refine wl_nil ?_
      refine wc_seq ?_
      refine wc_cond rfl (fun c4 => ?_) (fun c4 => ?_)
      · have c4p := of_decide_eq_true c4
        refine wc_skip ?_
        refine wc_seq ?_
        refine wc_block ?_
        refine wc_seq ?_
        refine wc_region ?_
        refine wl_v rfl rfl rfl (v_move rfl) ?_
        refine wl_v rfl rfl rfl (v_assign rfl) ?_
        refine wl_nil ?_
        refine wc_region ?_
        refine wl_v rfl rfl rfl (v_fb (o2 := 1) fa25_1 rfl rfl) ?_
        refine wl_v rfl rfl rfl (v_load one23 rfl (H.at (by repeat constructor) rfl)) ?_
        refine wl_v rfl rfl rfl (v_move rfl) ?_
        refine wl_v rfl rfl rfl (v_idx Try.underlying23 sz39 (fun h => (H.rrR (f := fInt .i64) (e := 39) (e2 := 3) (A := A2) (xss := yss) (by repeat constructor)).ad (by omega)) rfl rfl (by omega) (by omega)) ?_
        obtain ⟨B88, cp88, R88, hc88, H22, hback⟩ := (H.turn (A := RR (fInt .i64) 39 3 (.slice A2 (dfAns t).go.length cz2) yss) (by repeat constructor)).rrAt (i := i) (by omega)
        refine wl_v rfl rfl rfl (v_load one39 rfl hc88) ?_
        refine wl_v rfl rfl rfl (v_move rfl) ?_
        refine wl_v rfl rfl rfl (v_idx Try.underlying39 sz3 (H22.rrd (f := fInt .i64) (e := 3) (A := B88) (xs := (yss.getD i [])) (.here _ _ _)).ad rfl rfl (by omega) (by omega)) ?_
        refine wl_storeR (f := fInt .i64) (xs := yss.getD i []) (i := (q : Int)) (x' := 78) H22 (.here _ _ _) sz3 rfl rfl rfl (by omega) (by omega) ?_
        intro w23 H230
        have H23 := hback _ _ H230
        obtain ⟨ho1, ho2⟩ := ho.set (i := i) (ys := (yss.getD i []).set (q : Int).toNat 78) (by omega) (by rw [List.length_set])
        refine wl_nil ?_
        refine wc_region ?_
        refine wl_v rfl rfl rfl (v_addi rfl rfl (by omega)) ?_
        refine wl_v rfl rfl rfl (v_move rfl) ?_
        refine wl_nil ?_
        exact ⟨(q + 1, yss.set i ((yss.getD i []).set (q : Int).toNat 78)), (sc rfl (sc rfl (sc rfl (sc rfl (sc rfl (sc rfl (sc rfl (sc rfl (sn _))))))))), ⟨⟨by dsimp only; omega, ho1, by dsimp only; rw [ho2]; exact hql⟩, H23.pm (by repeat constructor)⟩, by dsimp only; omega⟩
      · have c4p := of_decide_eq_false c4
        refine wc_exit ?_
        refine wc_region ?_
        refine wl_v rfl rfl rfl (v_addi rfl rfl (by omega)) ?_
        refine wl_v rfl rfl rfl (v_move rfl) ?_
        refine wl_nil ?_
        exact ⟨(i + 1, yss), (sc rfl (sc rfl (sc rfl (sc rfl (sc rfl (sn _)))))), ⟨⟨by dsimp only; omega, ho⟩, H.pm (by repeat constructor)⟩, by dsimp only; omega⟩
    · have c3p := of_decide_eq_false c3
      refine wc_exit ?_
      refine wc_seq ?_
      refine wc_region ?_
      refine wl_v rfl rfl rfl (v_fb (o2 := 0) fa27_0 rfl rfl) ?_
      refine wl_v rfl rfl rfl (v_loadN (cs := [_, _]) agg25 rfl rfl (H.atsN (k := 2) (by repeat constructor) rfl)) ?_
      refine wl_v rfl rfl rfl (v_fb (o2 := 2) fa27_1 rfl rfl) ?_
      refine wl_v rfl rfl rfl (v_load one3 rfl (H.at (by repeat constructor) rfl)) ?_
      refine wl_v rfl rfl rfl (v_fb (o2 := 3) fa27_2 rfl rfl) ?_
      refine wl_v rfl rfl rfl (v_load one3 rfl (H.at (by repeat constructor) rfl)) ?_
      refine wl_v rfl rfl rfl (v_fb (o2 := 4) fa27_3 rfl rfl) ?_
      refine wl_v rfl rfl rfl (v_load one3 rfl (H.at (by repeat constructor) rfl)) ?_
      refine wl_call en16 rfl rfl (pack_calls _ _ (hx.below H.old) hs.ok hs.big4 (sorts hs)) ?_
      rintro _ w24 ⟨a1, rfl, Hc⟩
      have H25 := H.call Hc
      refine wl_v rfl rfl rfl (v_move rfl) ?_
      refine wl_v rfl rfl rfl (v_extract rfl rfl) ?_
      refine wl_v rfl rfl rfl (v_extract rfl rfl) ?_
      refine wl_alloc (cs := [.int .i64 0, .int .i64 0, .slice none 0 0, .slice none 0 0, .slice none 0 0, .slice none 0 0, .slice none 0 0, .slice none 0 0, .slice none 0 0]) H25 rfl zv41 rfl ?_
      intro b11 w26 hb11 H27
      refine wl_store (vs := [_, _, _, _, _, _, _, _, _]) H27 (by repeat constructor) sz41 rfl rfl rfl rfl rfl (by repeat constructor) ?_
      intro w28 H29 hw28
      refine wl_v rfl rfl rfl (v_assign rfl) ?_
      refine wl_nil ?_
      refine wc_seq ?_
      refine wc_seq ?_
      refine wc_region ?_
      refine wl_v rfl rfl rfl (v_fb (o2 := 5) fa41_5 rfl rfl) ?_
      refine wl_v rfl rfl rfl (v_load one38 rfl (H29.at (by repeat constructor) rfl)) ?_
      refine wl_v rfl rfl rfl (v_len Try.underlying38 rfl) ?_
      refine wl_v rfl rfl rfl (v_move rfl) ?_
      refine wl_nil ?_
      refine wc_block ?_
      refine wc_loop (σ := Nat × List Mv) (fun s => [(1, .pointer (some ⟨b1, 0, none⟩)), (5, .pointer (some ⟨b5, 0, none⟩)), (11, .pointer (some ⟨b11, 0, none⟩)), (107, .int .i64 (pkAns t k r p (ordF (t.mv.map pkRow)) (ordF (t.go.map goRow))).cell.length), (108, .int .i64 s.1)]) (fun s W => (s.1 ≤ (pkAns t k r p (ordF (t.mv.map pkRow)) (ordF (t.go.map goRow))).cell.length ∧ s.2.length = (pkAns t k r p (ordF (t.mv.map pkRow)) (ordF (t.go.map goRow))).cell.length) ∧ Holds w [Row fMv 48 (.slice a1.e (pkAns t k r p (ordF (t.mv.map pkRow)) (ordF (t.go.map goRow))).cell.length a1.ke) s.2, Row (fInt .i64) 3 (.slice a1.c (pkAns t k r p (ordF (t.mv.map pkRow)) (ordF (t.go.map goRow))).check.length a1.kc) (pkAns t k r p (ordF (t.mv.map pkRow)) (ordF (t.go.map goRow))).check, Blk b11 41 [.int .i64 (pkAns t k r p (ordF (t.mv.map pkRow)) (ordF (t.go.map goRow))).kinds, .int .i64 (pkAns t k r p (ordF (t.mv.map pkRow)) (ordF (t.go.map goRow))).rules, .slice a1.d (pkAns t k r p (ordF (t.mv.map pkRow)) (ordF (t.go.map goRow))).dflt.length a1.kd, .slice a1.b (pkAns t k r p (ordF (t.mv.map pkRow)) (ordF (t.go.map goRow))).base.length a1.kb, .slice a1.c (pkAns t k r p (ordF (t.mv.map pkRow)) (ordF (t.go.map goRow))).check.length a1.kc, .slice a1.e (pkAns t k r p (ordF (t.mv.map pkRow)) (ordF (t.go.map goRow))).cell.length a1.ke, .slice a1.gb (pkAns t k r p (ordF (t.mv.map pkRow)) (ordF (t.go.map goRow))).gbase.length a1.kgb, .slice a1.gc (pkAns t k r p (ordF (t.mv.map pkRow)) (ordF (t.go.map goRow))).gcheck.length a1.kgc, .slice a1.ge (pkAns t k r p (ordF (t.mv.map pkRow)) (ordF (t.go.map goRow))).gcell.length a1.kge], Blk b5 25 [.slice A3 (dfAns t).mv.length cz3, .slice A4 (dfAns t).go.length cz4], RR fMv 38 48 (.slice A3 (dfAns t).mv.length cz3) (dfAns t).mv, RR (fInt .i64) 39 3 (.slice A4 (dfAns t).go.length cz4) (dfAns t).go, Blk b1 27 [.slice A t.mv.length ca, .slice B t.go.length cb, .int .i64 k, .int .i64 r, .int .i64 p]] W) (fun s => (pkAns t k r p (ordF (t.mv.map pkRow)) (ordF (t.go.map goRow))).cell.length - s.1) (0, (pkAns t k r p (ordF (t.mv.map pkRow)) (ordF (t.go.map goRow))).cell) (sc rfl (sc rfl (sc rfl (sc rfl (sc rfl (sn _)))))) ⟨⟨Nat.zero_le _, rfl⟩, H29.pm (by repeat constructor)⟩ ?_
      rintro ⟨i, xs⟩ W4 ⟨⟨hi, hxl⟩, H⟩
      dsimp only at hi hxl H ⊢
      refine wc_seq ?_
      refine wc_region ?_
      refine wl_v rfl rfl rfl (v_lss rfl rfl) ?_
      refine wl_nil ?_
      refine wc_seq ?_
      refine wc_cond rfl (fun c5 => ?_) (fun c5 => ?_)
      · have c5p := of_decide_eq_true c5
        refine wc_skip ?_
        refine wc_seq ?_
        refine wc_block ?_
        refine wc_seq ?_
        refine wc_region ?_
        refine wl_v rfl rfl rfl (v_move rfl) ?_
        refine wl_v rfl rfl rfl (v_assign rfl) ?_
        refine wl_nil ?_
        refine wc_region ?_
        refine wl_v rfl rfl rfl (v_fb (o2 := 5) fa41_5 rfl rfl) ?_
        refine wl_v rfl rfl rfl (v_load one38 rfl (H.at (by repeat constructor) rfl)) ?_
        refine wl_v rfl rfl rfl (v_move rfl) ?_
        refine wl_v rfl rfl rfl (v_idx Try.underlying38 sz48 (fun h => (H.rrd (f := fMv) (e := 48) (A := a1.e) (xs := xs) (by repeat constructor)).ad (by omega)) rfl rfl (by omega) (by omega)) ?_
        refine wl_v rfl rfl rfl (v_fp fa48_1 rfl) ?_
        refine wl_storeC (f := fMv) (xs := xs) (i := (i : Int)) (k := 1) (u := .int .i64 79) (z0 := mv0) (x' := ⟨(xs.getD i mv0).d, 79⟩) H (by repeat constructor) sz3 rfl rfl rfl rfl (by omega) (by omega) (by decide) (by rw [Int.toNat_natCast]; rfl) ?_
        intro w30 H30
        refine wl_nil ?_
        refine wc_region ?_
        refine wl_v rfl rfl rfl (v_addi rfl rfl (by omega)) ?_
        refine wl_v rfl rfl rfl (v_move rfl) ?_
        refine wl_nil ?_
        exact ⟨(i + 1, xs.set (i : Int).toNat ⟨(xs.getD i mv0).d, 79⟩), (sc rfl (sc rfl (sc rfl (sc rfl (sc rfl (sn _)))))), ⟨⟨by dsimp only; omega, by dsimp only; rw [List.length_set]; exact hxl⟩, H30.pm (by repeat constructor)⟩, by dsimp only; omega⟩
      · have c5p := of_decide_eq_false c5
        refine wc_exit ?_
        refine wc_seq ?_
        refine wc_seq ?_
        refine wc_region ?_
        refine wl_v rfl rfl rfl (v_fb (o2 := 4) fa41_4 rfl rfl) ?_
        refine wl_v rfl rfl rfl (v_load one39 rfl (H.at (by repeat constructor) rfl)) ?_
        refine wl_v rfl rfl rfl (v_len Try.underlying39 rfl) ?_
        refine wl_v rfl rfl rfl (v_move rfl) ?_
        refine wl_nil ?_
        refine wc_block ?_
        refine wc_loop (σ := Nat × List Int) (fun s => [(1, .pointer (some ⟨b1, 0, none⟩)), (5, .pointer (some ⟨b5, 0, none⟩)), (11, .pointer (some ⟨b11, 0, none⟩)), (119, .int .i64 (pkAns t k r p (ordF (t.mv.map pkRow)) (ordF (t.go.map goRow))).check.length), (120, .int .i64 s.1)]) (fun s W => (s.1 ≤ (pkAns t k r p (ordF (t.mv.map pkRow)) (ordF (t.go.map goRow))).check.length ∧ s.2.length = (pkAns t k r p (ordF (t.mv.map pkRow)) (ordF (t.go.map goRow))).check.length) ∧ Holds w [Row (fInt .i64) 3 (.slice a1.c (pkAns t k r p (ordF (t.mv.map pkRow)) (ordF (t.go.map goRow))).check.length a1.kc) s.2, Blk b11 41 [.int .i64 (pkAns t k r p (ordF (t.mv.map pkRow)) (ordF (t.go.map goRow))).kinds, .int .i64 (pkAns t k r p (ordF (t.mv.map pkRow)) (ordF (t.go.map goRow))).rules, .slice a1.d (pkAns t k r p (ordF (t.mv.map pkRow)) (ordF (t.go.map goRow))).dflt.length a1.kd, .slice a1.b (pkAns t k r p (ordF (t.mv.map pkRow)) (ordF (t.go.map goRow))).base.length a1.kb, .slice a1.c (pkAns t k r p (ordF (t.mv.map pkRow)) (ordF (t.go.map goRow))).check.length a1.kc, .slice a1.e (pkAns t k r p (ordF (t.mv.map pkRow)) (ordF (t.go.map goRow))).cell.length a1.ke, .slice a1.gb (pkAns t k r p (ordF (t.mv.map pkRow)) (ordF (t.go.map goRow))).gbase.length a1.kgb, .slice a1.gc (pkAns t k r p (ordF (t.mv.map pkRow)) (ordF (t.go.map goRow))).gcheck.length a1.kgc, .slice a1.ge (pkAns t k r p (ordF (t.mv.map pkRow)) (ordF (t.go.map goRow))).gcell.length a1.kge], Blk b5 25 [.slice A3 (dfAns t).mv.length cz3, .slice A4 (dfAns t).go.length cz4], RR fMv 38 48 (.slice A3 (dfAns t).mv.length cz3) (dfAns t).mv, RR (fInt .i64) 39 3 (.slice A4 (dfAns t).go.length cz4) (dfAns t).go, Blk b1 27 [.slice A t.mv.length ca, .slice B t.go.length cb, .int .i64 k, .int .i64 r, .int .i64 p]] W) (fun s => (pkAns t k r p (ordF (t.mv.map pkRow)) (ordF (t.go.map goRow))).check.length - s.1) (0, (pkAns t k r p (ordF (t.mv.map pkRow)) (ordF (t.go.map goRow))).check) (sc rfl (sc rfl (sc rfl (sc rfl (sc rfl (sn _)))))) ⟨⟨Nat.zero_le _, rfl⟩, H.pm (by repeat constructor)⟩ ?_
        rintro ⟨i, xs⟩ W5 ⟨⟨hi, hxl⟩, H⟩
        dsimp only at hi hxl H ⊢
        refine wc_seq ?_
        refine wc_region ?_
        refine wl_v rfl rfl rfl (v_lss rfl rfl) ?_
        refine wl_nil ?_
        refine wc_seq ?_
        refine wc_cond rfl (fun c6 => ?_) (fun c6 => ?_)
        · have c6p := of_decide_eq_true c6
          refine wc_skip ?_
          refine wc_seq ?_
          refine wc_block ?_
          refine wc_seq ?_
          refine wc_region ?_
          refine wl_v rfl rfl rfl (v_move rfl) ?_
          refine wl_v rfl rfl rfl (v_assign rfl) ?_
          refine wl_nil ?_
          refine wc_region ?_
          refine wl_v rfl rfl rfl (v_fb (o2 := 4) fa41_4 rfl rfl) ?_
          refine wl_v rfl rfl rfl (v_load one39 rfl (H.at (by repeat constructor) rfl)) ?_
          refine wl_v rfl rfl rfl (v_move rfl) ?_
          refine wl_v rfl rfl rfl (v_idx Try.underlying39 sz3 (fun h => (H.rrd (f := fInt .i64) (e := 3) (A := a1.c) (xs := xs) (by repeat constructor)).ad (by omega)) rfl rfl (by omega) (by omega)) ?_
          refine wl_storeR (f := fInt .i64) (xs := xs) (i := (i : Int)) (x' := 80) H (by repeat constructor) sz3 rfl rfl rfl (by omega) (by omega) ?_
          intro w31 H31
          refine wl_nil ?_
          refine wc_region ?_
          refine wl_v rfl rfl rfl (v_addi rfl rfl (by omega)) ?_
          refine wl_v rfl rfl rfl (v_move rfl) ?_
          refine wl_nil ?_
          exact ⟨(i + 1, xs.set (i : Int).toNat 80), (sc rfl (sc rfl (sc rfl (sc rfl (sc rfl (sn _)))))), ⟨⟨by dsimp only; omega, by dsimp only; rw [List.length_set]; exact hxl⟩, H31.pm (by repeat constructor)⟩, by dsimp only; omega⟩
        · have c6p := of_decide_eq_false c6
          refine wc_exit ?_
          refine wc_seq ?_
          refine wc_region ?_
          refine wl_v rfl rfl rfl (v_fb (o2 := 0) fa27_0 rfl rfl) ?_
          refine wl_v rfl rfl rfl (v_loadN (cs := [_, _]) agg25 rfl rfl (H.atsN (k := 2) (by repeat constructor) rfl)) ?_
          refine wl_v rfl rfl rfl (v_fb (o2 := 2) fa27_1 rfl rfl) ?_
          refine wl_v rfl rfl rfl (v_load one3 rfl (H.at (by repeat constructor) rfl)) ?_
          refine wl_v rfl rfl rfl (v_fb (o2 := 3) fa27_2 rfl rfl) ?_
          refine wl_v rfl rfl rfl (v_load one3 rfl (H.at (by repeat constructor) rfl)) ?_
          refine wl_v rfl rfl rfl (v_fb (o2 := 4) fa27_3 rfl rfl) ?_
          refine wl_v rfl rfl rfl (v_load one3 rfl (H.at (by repeat constructor) rfl)) ?_
          refine wl_call en16 rfl rfl (pack_calls _ _ (hx.below H.old) hs.ok hs.big4 (sorts hs)) ?_
          rintro _ w32 ⟨a2, rfl, Hc⟩
          have H33 := H.call Hc
          refine wl_v rfl rfl rfl (v_move rfl) ?_
          refine wl_v rfl rfl rfl (v_extract rfl rfl) ?_
          refine wl_v rfl rfl rfl (v_extract rfl rfl) ?_
          refine wl_alloc (cs := [.int .i64 0, .int .i64 0, .slice none 0 0, .slice none 0 0, .slice none 0 0, .slice none 0 0, .slice none 0 0, .slice none 0 0, .slice none 0 0]) H33 rfl zv41 rfl ?_
          intro b15 w34 hb15 H35
          refine wl_store (vs := [_, _, _, _, _, _, _, _, _]) H35 (by repeat constructor) sz41 rfl rfl rfl rfl rfl (by repeat constructor) ?_
          intro w36 H37 hw36
          refine wl_v rfl rfl rfl (v_assign rfl) ?_
          refine wl_nil ?_
          refine wc_seq ?_
          refine wc_region ?_
          refine wl_v rfl rfl rfl (v_fb (o2 := 0) fa27_0 rfl rfl) ?_
          refine wl_v rfl rfl rfl (v_loadN (cs := [_, _]) agg25 rfl rfl (H37.atsN (k := 2) (by repeat constructor) rfl)) ?_
          refine wl_v rfl rfl rfl (v_fb (o2 := 2) fa27_1 rfl rfl) ?_
          refine wl_v rfl rfl rfl (v_load one3 rfl (H37.at (by repeat constructor) rfl)) ?_
          refine wl_v rfl rfl rfl (v_fb (o2 := 3) fa27_2 rfl rfl) ?_
          refine wl_v rfl rfl rfl (v_load one3 rfl (H37.at (by repeat constructor) rfl)) ?_
          refine wl_v rfl rfl rfl (v_fb (o2 := 4) fa27_3 rfl rfl) ?_
          refine wl_v rfl rfl rfl (v_load one3 rfl (H37.at (by repeat constructor) rfl)) ?_
          refine wl_call en17 rfl rfl (rpack_calls (hx.below H37.old) hs.ok ik ir ip hs.big4) ?_
          rintro _ w38 ⟨a3, rfl, Hc⟩
          have H39 := H37.call Hc
          refine wl_v rfl rfl rfl (v_move rfl) ?_
          refine wl_v rfl rfl rfl (v_extract rfl rfl) ?_
          refine wl_v rfl rfl rfl (v_extract rfl rfl) ?_
          refine wl_alloc (cs := [.int .i64 0, .int .i64 0, .slice none 0 0, .slice none 0 0, .slice none 0 0, .slice none 0 0, .slice none 0 0, .slice none 0 0, .slice none 0 0]) H39 rfl zv41 rfl ?_
          intro b17 w40 hb17 H41
          refine wl_store (vs := [_, _, _, _, _, _, _, _, _]) H41 (by repeat constructor) sz41 rfl rfl rfl rfl rfl (by repeat constructor) ?_
          intro w42 H43 hw42
          refine wl_v rfl rfl rfl (v_assign rfl) ?_
          refine wl_nil ?_
          refine wc_seq ?_
          refine wc_region ?_
          refine wl_v rfl rfl rfl (v_fb (o2 := 0) fa27_0 rfl rfl) ?_
          refine wl_v rfl rfl rfl (v_loadN (cs := [_, _]) agg25 rfl rfl (H43.atsN (k := 2) (by repeat constructor) rfl)) ?_
          refine wl_call en11 rfl rfl (rdefaults_calls (hx.below H43.old) hs.ok) ?_
          rintro _ w44 ⟨v1, v2, rfl, Hc⟩
          have H45 := H43.call Hc
          obtain ⟨A5, cz5, rfl, _⟩ := H45.rr (f := fMv) (e := 38) (e2 := 48) (v := v1) (xss := (dfAns t).mv) (by repeat constructor)
          obtain ⟨A6, cz6, rfl, _⟩ := H45.rr (f := fInt .i64) (e := 39) (e2 := 3) (v := v2) (xss := (dfAns t).go) (by repeat constructor)
          refine wl_v rfl rfl rfl (v_move rfl) ?_
          refine wl_v rfl rfl rfl (v_extract rfl rfl) ?_
          refine wl_v rfl rfl rfl (v_extract rfl rfl) ?_
          refine wl_alloc (cs := [.slice none 0 0, .slice none 0 0]) H45 rfl zv25 rfl ?_
          intro b19 w46 hb19 H47
          refine wl_store (vs := [_, _]) H47 (by repeat constructor) sz25 rfl rfl rfl rfl rfl (by repeat constructor) ?_
          intro w48 H49 hw48
          refine wl_v rfl rfl rfl (v_assign rfl) ?_
          refine wl_nil ?_
          refine wc_seq ?_
          refine wc_region ?_
          refine wl_v rfl rfl rfl (v_loadN agg25 rfl rfl (H49.ats (by repeat constructor))) ?_
          refine wl_v rfl rfl rfl (v_loadN agg25 rfl rfl (H49.ats (by repeat constructor))) ?_
          refine wl_call en14 rfl rfl (same_calls ⟨H49.rrR (f := fMv) (e := 38) (e2 := 48) (A := A3) (xss := (dfAns t).mv) (by repeat constructor), H49.rrR (f := fInt .i64) (e := 39) (e2 := 3) (A := A4) (xss := (dfAns t).go) (by repeat constructor)⟩ ⟨H49.rrR (f := fMv) (e := 38) (e2 := 48) (A := A5) (xss := (dfAns t).mv) (by repeat constructor), H49.rrR (f := fInt .i64) (e := 39) (e2 := 3) (A := A6) (xss := (dfAns t).go) (by repeat constructor)⟩ hD hD) ?_
          rintro _ w50 ⟨rfl, Hc⟩
          have H51 := H49.call Hc
          refine wl_v rfl rfl rfl (v_move rfl) ?_
          refine wl_guard rfl rfl rfl (fun g161 => ?_) (fun g161 => ?_)
          · have g161p := of_decide_eq_true g161
            refine wl_v rfl rfl rfl (v_loadN agg41 rfl rfl (H51.ats (by repeat constructor))) ?_
            refine wl_on' rfl rfl g161 ?_
            refine wl_v rfl rfl rfl (v_loadN agg41 rfl rfl (H51.ats (by repeat constructor))) ?_
            refine wl_on' rfl rfl g161 ?_
            refine wl_call en18 rfl rfl (samePacked_calls (ownP_rd (a := a2) (p := (pkAns t k r p (ordF (t.mv.map pkRow)) (ordF (t.go.map goRow)))) H51 (by repeat constructor)) (ownP_rd (a := a3) (p := (pkAns t k r p (ordF (t.mv.map pkRow)) (ordF (t.go.map goRow)))) H51 (by repeat constructor)) hpl hpl) ?_
            rintro _ w52 ⟨rfl, Hc⟩
            have H53 := H51.call Hc
            refine wl_v rfl rfl rfl (v_pick_t rfl g161 rfl) ?_
            refine wl_v rfl rfl rfl (v_assign rfl) ?_
            refine wl_nil ?_
            refine wc_ret ?_
            exact ⟨_, res1 rfl rfl, congrArg Value.bool (decide_eq_true rfl), H53.pm (Pm.nil _)⟩
          · have g161p := of_decide_eq_false g161
            exact absurd rfl g161p
end Go.Proofs.Ytkpehkadammppaa.TOwn
