/- Values may be written over; rows are not changed. How the arguments' types are read (seat 21). -/
import Derived.Test.YtgdemplcpcacaaaProg
import Derived.Test.YtgdemplcpcacaaaK13
import Derived.Test.YtgdemplcpcacaaaK11
import Derived.Test.YtgdemplcpcacaaaK15
import Derived.Test.YtgdemplcpcacaaaK16
set_option linter.unusedVariables false
set_option linter.unusedSimpArgs false
/-! Values may be written over; rows are not changed. -/
namespace Go.Proofs.Ytgdemplcpcacaaa.BOwn
open Go Go.RowKit Go.Proofs.YtgdemplcpcacaaaFx Go.Proofs.Ytgdemplcpcacaaa.AliveB Go.Proofs.Ytgdemplcpcacaaa.PValue Go.Proofs.Ytgdemplcpcacaaa.RValue Go.Proofs.Ytgdemplcpcacaaa.SameN Go.Proofs.Ytgdemplcpcacaaa.BValues
theorem agg24 : Agg Try.prog 24 4 := agg_of Try.underlying24 (by kernel_rfl)
theorem agg44 : Agg Try.prog 44 5 := agg_of Try.underlying44 (by kernel_rfl)
theorem agg50 : Agg Try.prog 50 3 := agg_of Try.underlying50 (by kernel_rfl)
theorem ba24 : BuildAt Try.prog 24 [.int .i64 0, .string ⟨#[]⟩, .int .i64 0, .slice none 0 0] [(0, 1), (1, 1), (2, 1), (3, 1)] := build_at Try.underlying24 (by kernel_rfl) (by kernel_rfl)
theorem en10 : Enters Try.prog 10 := enters Try.func10 (by kernel_rfl) rfl
theorem en14 : Enters Try.prog 14 := enters Try.func14 (by kernel_rfl) rfl
theorem en16 : Enters Try.prog 16 := enters Try.func16 (by kernel_rfl) rfl
theorem en17 : Enters Try.prog 17 := enters Try.func17 (by kernel_rfl) rfl
theorem en23 : Enters Try.prog 23 := enters Try.func23 (by kernel_rfl) rfl
theorem fa24_3 : FieldAt Try.prog 24 3 3 := field_at (sz := 0) Try.underlying24 rfl (by kernel_rfl) rfl
theorem fa47_0 : FieldAt Try.prog 47 0 0 := field_at (sz := 4) Try.underlying47 rfl (by kernel_rfl) rfl
theorem fa53_0 : FieldAt Try.prog 53 0 0 := field_at (sz := 2) Try.underlying53 rfl (by kernel_rfl) rfl
theorem fa53_1 : FieldAt Try.prog 53 1 3 := field_at (sz := 0) Try.underlying53 rfl (by kernel_rfl) rfl
theorem info24 : (Try.prog.info? 24).map (fun i => (i.zero, i.size, i.bytes)) = some (some (.agg #[.int .i64 0, .string ⟨#[]⟩, .int .i64 0, .slice none 0 0]), 4, 56) := by kernel_rfl
theorem info3 : (Try.prog.info? 3).map (fun i => (i.zero, i.size, i.bytes)) = some (some (.int .i64 0), 1, 8) := by kernel_rfl
theorem mixed : Try.prog.follows .mixedOrders = true := by kernel_rfl
theorem one22 : One Try.prog 22 := one_of Try.underlying22 rfl (by kernel_rfl)
theorem one3 : One Try.prog 3 := one_of Try.underlying3 rfl (by kernel_rfl)
theorem one51 : One Try.prog 51 := one_of Try.underlying51 rfl (by kernel_rfl)
theorem sz24 : ∀ W, (sizeOf 24).run Try.prog W = .ok 4 W := size_of (by kernel_rfl)
theorem sz3 : ∀ W, (sizeOf 3).run Try.prog W = .ok 1 W := size_of (by kernel_rfl)
theorem zv24 : ∀ W, (zeroValue 24).run Try.prog W = .ok (.agg #[.int .i64 0, .string ⟨#[]⟩, .int .i64 0, .slice none 0 0]) W := zero_of (by kernel_rfl)
theorem zv3 : ∀ W, (zeroValue 3).run Try.prog W = .ok (.int .i64 0) W := zero_of (by kernel_rfl)

theorem mine_rd {α : Type} {d : Kn α} {w : World} {A : Option Addr} {xs ys : List α} (h : Rd d w A (xs ++ ys)) : Rd d w A xs := by
  have := h.takes xs.length
  rwa [List.take_left'] at this
  rfl
theorem set_at {cs : List Nd} {i : Nat} {t : Nd} (h : i < cs.length) : (cs.set i t).getD i nd0 = t := by
  rw [List.getD_eq_getElem?_getD, List.getElem?_set_self h]
  rfl
theorem set_off {cs : List Nd} {i j : Nat} {t : Nd} (h : i ≠ j) : (cs.set i t).getD j nd0 = cs.getD j nd0 := by
  rw [List.getD_eq_getElem?_getD, List.getD_eq_getElem?_getD, List.getElem?_set_ne h]
theorem set_id {cs : List Nd} {i : Nat} (h : i < cs.length) : cs.set i (.mk (cs.getD i nd0).x (cs.getD i nd0).kids) = cs := by
  have e : Tr.mk (cs.getD i nd0).x (cs.getD i nd0).kids = cs[i] := by
    rw [List.getD_eq_getElem?_getD, List.getElem?_eq_getElem h]
    show Tr.mk cs[i].x cs[i].kids = cs[i]
    cases cs[i]
    rfl
  rw [e, List.set_getElem_self]
theorem own_last (row : List Int) : (row ++ [-9, -9]).getD row.length 0 = -9 := by
  rw [List.getD_eq_getElem?_getD, List.getElem?_append_right (Nat.le_refl _), Nat.sub_self]
  rfl

set_option maxRecDepth 100000 in
theorem sameRow_calls {xs : List Int} {A B : Option Addr} {ca cb : Nat} {w : World} (h1 : Rd (kInt .i64) w A xs) (h2 : Rd (kInt .i64) w B xs) (hl : xs.length ≤ 1099511627776) : Calls Try.prog 23 #[.slice A xs.length ca, .slice B xs.length cb] w fun e w' => ∃ v, e = .returned v ∧ v = .bool true ∧ Holds w [] w' := by
  refine calls_of Try.func23 rfl Try.ntmps23 rfl ?_
  have H := Holds.start w
  refine wcR ?_
  refine wA ?_
  refine wl_nil ?_
  refine wc_seq ?_
  refine wcR ?_
  refine wM ?_
  refine wV (v_len Try.underlying51 rfl) ?_
  refine wM ?_
  refine wV (v_len Try.underlying51 rfl) ?_
  refine wV (v_neq rfl rfl) ?_
  refine wl_nil ?_
  refine wc_cond rfl (fun c0 => ?_) (fun c0 => ?_)
  ·have c0p := of_nd_t c0
   exact absurd rfl c0p
  have c0p := of_nd_f c0
  refine wc_skip ?_
  refine wc_seq ?_
  refine wcR ?_
  refine wA ?_
  refine wl_nil ?_
  refine wc_block ?_
  refine wc_loop (σ := Nat) (fun s => [(0, .slice A xs.length ca), (1, .slice B xs.length cb), (5, .int .i64 s)]) (fun s W => s ≤ xs.length ∧ Holds w [] W) (fun s => xs.length - s) 0 (sc rfl (sc rfl (sc rfl (sn _)))) ⟨Nat.zero_le _, H⟩ ?_
  rintro i W0 ⟨hi, H⟩
  refine wc_seq ?_
  refine wcR ?_
  refine wM ?_
  refine wM ?_
  refine wV (v_len Try.underlying51 rfl) ?_
  refine wV (v_lss rfl rfl) ?_
  refine wl_nil ?_
  refine wc_cond rfl (fun c1 => ?_) (fun c1 => ?_)
  rotate_left
  ·have c1p := oF c1
   refine wc_exit ?_
   refine wcR ?_
   refine wA ?_
   refine wl_nil ?_
   refine wc_ret ?_
   exact ⟨_, res1 rfl rfl, rfl, H.pm (by repeat (first | exact Pm.nil _ | constructor))⟩
  have c1p := oT c1
  have hin : i < xs.length := by omega
  refine wc_skip ?_
  refine wc_seq ?_
  refine wc_block ?_
  refine wc_seq ?_
  refine wc_tree [0, 1, 2, 3, 4, 5, 6, 7, 8] (fun W => Holds w [] W) mixed ?_
  have Hd := H.drew
  have HSd : Holds w [] _ := Hd.pm (by repeat constructor)
  refine wjV (k := 0) rfl HSd (fun W HW => v_move rfl) ?_
  refine wjV (k := 1) rfl HSd (fun W HW => v_move rfl) ?_
  refine wjV (k := 2) rfl HSd (fun W HW => v_idx Try.underlying51 sz3 h1.ad rfl rfl (by omega) (by omega)) ?_
  refine wjV (k := 3) rfl HSd (fun W HW => v_load one3 rfl (HW.cell (h1.at1N (i := i) (by omega)))) ?_
  refine wjV (k := 4) rfl HSd (fun W HW => v_move rfl) ?_
  refine wjV (k := 5) rfl HSd (fun W HW => v_move rfl) ?_
  refine wjV (k := 6) rfl HSd (fun W HW => v_idx Try.underlying51 sz3 h2.ad rfl rfl (by omega) (by omega)) ?_
  refine wjV (k := 7) rfl HSd (fun W HW => v_load one3 rfl (HW.cell (h2.at1N (i := i) (by omega)))) ?_
  refine wjV (k := 8) rfl HSd (fun W HW => v_neq rfl rfl) ?_
  refine wj_done (by kernel_rfl) ?_
  refine wc_cond rfl (fun c2 => ?_) (fun c2 => ?_)
  ·have c2p := of_nd_t c2
   exact absurd rfl c2p
  have c2p := of_nd_f c2
  refine wc_skip ?_
  refine wc_region ?_
  refine wM ?_
  refine wV (v_addi rfl rfl (by omega)) ?_
  refine wA ?_
  refine wl_nil ?_
  exact ⟨i + 1, (sc rfl (sc rfl (sc rfl (sn _)))), ⟨by omega, Hd⟩, by omega⟩

set_option maxHeartbeats 12800000 in
set_option maxRecDepth 100000 in
theorem own_calls {x : Gv} {a : GvA} {d : Dv} {row : List Int} {A B : Option Addr} {k c : Nat} {w : World} (hx : x.rd w a) (hk : x.ok a) (hd : Rd (kTr fDv) w B d.kids) (hr : Rd (kInt .i64) w A row) (hcn : d.cnt ≤ 1048576) (hrl : row.length ≤ 1048576) : Calls Try.prog 8 #[.agg #[.slice a.a.k x.g.kinds.length a.a.ck, .slice a.a.p x.g.precs.length a.a.cp, .slice a.a.r x.g.rules.length a.a.cr, .slice a.a.q x.g.prods.length a.a.cq, .int .i64 x.g.start, .slice a.l x.l.length a.cl, .slice a.t x.ty.length a.ct], .agg #[.int .i64 d.x.prod, .int .i64 d.x.tok, .slice B d.kids.length k, .slice A row.length c]] w fun e w' => ∃ v, e = .returned v ∧ v = .bool true ∧ Holds w [] w' := by
  have hvf := valR_few (d := d) (row := row) hk
  obtain ⟨hv1, hv2⟩ := (Tr.All_eq _).1 hvf
  unfold few at hv1
  have hl2 : (row ++ [-9, -9]).length = row.length + 2 := by simp
  refine calls_of Try.func8 rfl Try.ntmps8 rfl ?_
  have H := Holds.start w
  refine wcR ?_
  refine wl_box (cs := [_, _, _, _, _, _, _]) H rfl rfl rfl ?_
  intro b2 w1 hb2 H2
  refine wl_box (cs := [_, _, _, _]) H2 rfl rfl rfl ?_
  intro b3 w3 hb3 H4
  refine wA ?_
  refine wl_nil ?_
  refine wc_seq ?_
  refine wcR ?_
  refine wl_call en10 rfl rfl (alive_calls) ?_
  rintro _ w5 ⟨rfl, Hc⟩
  have H6 := H4.call0 Hc
  refine wV (v_not rfl) ?_
  refine wl_nil ?_
  refine wc_cond_f rfl ?_
  refine wc_skip ?_
  refine wcR ?_
  refine wV (v_fb (o2 := 3) fa53_1 rfl rfl) ?_
  refine wV (v_load one51 rfl (H6.at (by repeat constructor) rfl)) ?_
  have Hn7 := H6.nilrow 3 1
  refine wl_appR (f := fInt .i64) (xs := []) (ys := row) Hn7 (fun v' => (by repeat constructor)) rfl Try.underlying51 info3 rfl (by decide) rfl rfl (hr.below H6.old) (by rw [List.length_nil]; omega) (by decide) ?_
  intro A21 c21 w7 H7 hs7
  rw [show ([] : List Int) ++ row = row from rfl] at H7 ⊢
  refine wl_slit (v := .int .i64 0) (z := [.int .i64 0, .int .i64 0]) (cs := [.int .i64 (-9), .int .i64 (-9)]) (sz := 1) H7 rfl Try.underlying51 sz3 zv3 (by decide) (by decide) (by kernel_rfl) rfl (by repeat constructor) ?_
  intro b22 w8 hb22 H8 hs8
  refine wl_appR (f := fInt .i64) (xs := row) (ys := [-9, -9]) H8 (fun v' => (by repeat constructor)) rfl Try.underlying51 info3 rfl (by decide) rfl rfl (rd_blks (f := fInt .i64) (b := b22) (e := 3) H8 (by repeat constructor) rfl) (by simp only [List.length_cons, List.length_nil]; omega) (by decide) ?_
  intro A23 c23 w9 H9 hs9
  refine wA ?_
  refine wl_nil ?_
  refine wcR ?_
  refine wM ?_
  refine wV (v_fb (o2 := 3) fa53_1 rfl rfl) ?_
  refine wV (v_load one51 rfl (H9.at (by repeat constructor) rfl)) ?_
  refine wV (v_len Try.underlying51 rfl) ?_
  have hcap := (rd_of_own (f := fInt .i64) (xs := (row ++ [-9, -9])) (H9.raw (e := 3) (v := .slice A23 (row ++ [-9, -9]).length c23) (by repeat constructor))).2.1
  refine wV (v_cuthi Try.underlying51 sz3 rfl rfl (by omega) (by omega)) ?_
  rw [Int.toNat_natCast]
  refine wA ?_
  refine wl_nil ?_
  refine wcR ?_
  refine wV (v_fb (o2 := 0) fa47_0 rfl rfl) ?_
  refine wV (v_loadN (cs := [_, _, _, _, _]) agg44 rfl rfl (H9.atsN (k := 5) (by repeat constructor) rfl)) ?_
  refine wV (v_fb (o2 := 0) fa53_0 rfl rfl) ?_
  refine wV (v_loadN (cs := [_, _, _]) agg50 rfl rfl (H9.atsN (k := 3) (by repeat constructor) rfl)) ?_
  refine wM ?_
  refine wl_call en16 rfl rfl (pvalue_calls hk.g (hx.g.below H9.old) (hd.below H9.old) (mine_rd (H9.rrd (f := fInt .i64) (e := 3) (A := A23) (xs := (row ++ [-9, -9])) (by repeat constructor))) (by omega) (by omega)) ?_
  rintro _ w11 ⟨Ap, cp, rfl, Hc⟩
  have H12 := H9.call Hc
  refine wM ?_
  refine wV (v_extract rfl rfl) ?_
  refine wV (v_extract rfl rfl) ?_
  refine wl_alloc (cs := [.int .i64 0, .string ⟨#[]⟩, .int .i64 0, .slice none 0 0]) H12 rfl zv24 rfl ?_
  intro b7 w13 hb7 H14
  refine wl_store (vs := [_, _, _, _]) H14 (by repeat constructor) sz24 rfl rfl rfl rfl rfl (by (repeat constructor)) ?_
  intro w15 H16 hw15
  refine wA ?_
  refine wl_nil ?_
  refine wcR ?_
  refine wV (v_fb (o2 := 0) fa47_0 rfl rfl) ?_
  refine wV (v_loadN (cs := [_, _, _, _, _]) agg44 rfl rfl (H16.atsN (k := 5) (by repeat constructor) rfl)) ?_
  refine wV (v_fb (o2 := 0) fa53_0 rfl rfl) ?_
  refine wV (v_loadN (cs := [_, _, _]) agg50 rfl rfl (H16.atsN (k := 3) (by repeat constructor) rfl)) ?_
  refine wM ?_
  refine wl_call en16 rfl rfl (pvalue_calls hk.g (hx.g.below H16.old) (hd.below H16.old) (mine_rd (H16.rrd (f := fInt .i64) (e := 3) (A := A23) (xs := (row ++ [-9, -9])) (by repeat constructor))) (by omega) (by omega)) ?_
  rintro _ w17 ⟨Aq, cq, rfl, Hc⟩
  have H18 := H16.call Hc
  refine wM ?_
  refine wV (v_extract rfl rfl) ?_
  refine wV (v_extract rfl rfl) ?_
  refine wl_alloc (cs := [.int .i64 0, .string ⟨#[]⟩, .int .i64 0, .slice none 0 0]) H18 rfl zv24 rfl ?_
  intro b9 w19 hb9 H20
  refine wl_store (vs := [_, _, _, _]) H20 (by repeat constructor) sz24 rfl rfl rfl rfl rfl (by (repeat constructor)) ?_
  intro w21 H22 hw21
  refine wA ?_
  refine wl_nil ?_
  refine wcR ?_
  refine wV (v_fb (o2 := 0) fa47_0 rfl rfl) ?_
  refine wV (v_loadN (cs := [_, _, _, _, _]) agg44 rfl rfl (H22.atsN (k := 5) (by repeat constructor) rfl)) ?_
  refine wV (v_fb (o2 := 0) fa53_0 rfl rfl) ?_
  refine wV (v_loadN (cs := [_, _, _]) agg50 rfl rfl (H22.atsN (k := 3) (by repeat constructor) rfl)) ?_
  refine wV (v_fb (o2 := 3) fa53_1 rfl rfl) ?_
  refine wV (v_load one51 rfl (H22.at (by repeat constructor) rfl)) ?_
  refine wl_call en17 rfl rfl (rvalue_calls hk.g (hx.g.below H22.old) (hd.below H22.old) (hr.below H22.old) (by omega) (by omega)) ?_
  rintro _ w23 ⟨Ar, cr, rfl, Hc⟩
  have H24 := H22.callN1 (fun _ h_ => h_.elim) Hc
  refine wM ?_
  refine wV (v_extract rfl rfl) ?_
  refine wV (v_extract rfl rfl) ?_
  refine wl_alloc (cs := [.int .i64 0, .string ⟨#[]⟩, .int .i64 0, .slice none 0 0]) H24 rfl zv24 rfl ?_
  intro b11 w25 hb11 H26
  refine wl_store (vs := [_, _, _, _]) H26 (by repeat constructor) sz24 rfl rfl rfl rfl rfl (by (repeat constructor)) ?_
  intro w27 H28 hw27
  refine wA ?_
  refine wl_nil ?_
  refine wc_seq ?_
  refine wcR ?_
  refine wV (v_loadN agg24 rfl rfl (H28.ats (by repeat constructor))) ?_
  refine wV (v_loadN agg24 rfl rfl (H28.ats (by repeat constructor))) ?_
  refine wl_call en14 rfl rfl (rsame_calls (valR x.g d row) (valR x.g d row) _ Ap Ar cp cr (H28.oRd (f := fNd) (e := 24) (x := ⟨0, ⟨#[]⟩, 0⟩) (by repeat constructor)) (H28.nxRd (by repeat constructor)) hvf) ?_
  rintro _ w29 ⟨rfl, Hc⟩
  have H30 := H28.call0 Hc
  refine wV (v_not rfl) ?_
  refine wl_nil ?_
  refine wc_cond_n rfl (by rw [(dec_t rfl)]; rfl) ?_
  refine wc_skip ?_
  refine wc_seq ?_
  refine wcR ?_
  refine wV (v_fb (o2 := 3) fa24_3 rfl rfl) ?_
  refine wV (v_load one22 rfl (H30.at (by repeat constructor) rfl)) ?_
  refine wV (v_len Try.underlying22 rfl) ?_
  refine wM ?_
  refine wl_nil ?_
  refine wc_block ?_
  refine wc_loop (σ := Nat × List Nd) (fun s' => [(3, .pointer (some ⟨b3, 0, none⟩)), (5, .slice A23 (row ++ [-9, -9]).length c23), (6, .slice A23 row.length c23), (7, .pointer (some ⟨b7, 0, none⟩)), (9, .pointer (some ⟨b9, 0, none⟩)), (11, .pointer (some ⟨b11, 0, none⟩)), (63, .int .i64 (valR x.g d row).kids.length), (64, .int .i64 s'.1)]) (fun s' W => (s'.1 ≤ (valR x.g d row).kids.length ∧ s'.2.length = (valR x.g d row).kids.length ∧ ∀ j, s'.1 ≤ j → s'.2.getD j nd0 = (valR x.g d row).kids.getD j nd0) ∧ Holds w [ORow fNd 24 (.slice Ap (valR x.g d row).kids.length cp) s'.2, Blk b7 24 [.int .i64 (valR x.g d row).x.kind, .string (valR x.g d row).x.name, .int .i64 (valR x.g d row).x.tok, .slice Ap (valR x.g d row).kids.length cp], Blk b9 24 [.int .i64 (valR x.g d row).x.kind, .string (valR x.g d row).x.name, .int .i64 (valR x.g d row).x.tok, .slice Aq (valR x.g d row).kids.length cq], ORow fNd 24 (.slice Aq (valR x.g d row).kids.length cq) (valR x.g d row).kids, Blk b11 24 [.int .i64 (valR x.g d row).x.kind, .string (valR x.g d row).x.name, .int .i64 (valR x.g d row).x.tok, .slice Ar (valR x.g d row).kids.length cr], NX (krTr fNd) w no (valR x.g d row) [.int .i64 (valR x.g d row).x.kind, .string (valR x.g d row).x.name, .int .i64 (valR x.g d row).x.tok, .slice Ar (valR x.g d row).kids.length cr], Row (fInt .i64) 3 (.slice A23 (row ++ [-9, -9]).length c23) (row ++ [-9, -9]), Blk b3 53 [.int .i64 d.x.prod, .int .i64 d.x.tok, .slice B d.kids.length k, .slice A row.length c]] W) (fun s' => (valR x.g d row).kids.length - s'.1) (0, (valR x.g d row).kids) (sc rfl (sc rfl (sc rfl (sc rfl (sc rfl (sc rfl (sc rfl (sc rfl (sn _))))))))) ⟨⟨Nat.zero_le _, rfl, fun _ _ => rfl⟩, H30.pm (by repeat (first | exact pm_refl _ | constructor | refine pm_skip ?_))⟩ ?_
  rintro ⟨i, cs⟩ W0 ⟨⟨hi, hcl, hce⟩, H⟩
  dsimp only at hi hcl hce H ⊢
  refine wcR ?_
  refine wV (v_lss rfl rfl) ?_
  refine wl_nil ?_
  refine wc_seq ?_
  refine wc_cond rfl (fun c2 => ?_) (fun c2 => ?_)
  rotate_left
  ·have c2p := oF c2
   refine wc_exit ?_
   refine wc_seq ?_
   refine wcR ?_
   refine wV (v_fb (o2 := 3) fa24_3 rfl rfl) ?_
   refine wV (v_load one22 rfl (H.at (by repeat constructor) rfl)) ?_
   refine wV (v_len Try.underlying22 rfl) ?_
   refine wM ?_
   refine wl_nil ?_
   refine wc_block ?_
   refine wc_loop (σ := Nat × List Nd) (fun s' => [(3, .pointer (some ⟨b3, 0, none⟩)), (5, .slice A23 (row ++ [-9, -9]).length c23), (6, .slice A23 row.length c23), (7, .pointer (some ⟨b7, 0, none⟩)), (9, .pointer (some ⟨b9, 0, none⟩)), (11, .pointer (some ⟨b11, 0, none⟩)), (121, .int .i64 (valR x.g d row).kids.length), (122, .int .i64 s'.1)]) (fun s' W => (s'.1 ≤ (valR x.g d row).kids.length ∧ s'.2.length = (valR x.g d row).kids.length) ∧ Holds w [ORow fNd 24 (.slice Ap (valR x.g d row).kids.length cp) s'.2, Blk b7 24 [.int .i64 (valR x.g d row).x.kind, .string (valR x.g d row).x.name, .int .i64 (valR x.g d row).x.tok, .slice Ap (valR x.g d row).kids.length cp], Blk b9 24 [.int .i64 (valR x.g d row).x.kind, .string (valR x.g d row).x.name, .int .i64 (valR x.g d row).x.tok, .slice Aq (valR x.g d row).kids.length cq], ORow fNd 24 (.slice Aq (valR x.g d row).kids.length cq) (valR x.g d row).kids, Blk b11 24 [.int .i64 (valR x.g d row).x.kind, .string (valR x.g d row).x.name, .int .i64 (valR x.g d row).x.tok, .slice Ar (valR x.g d row).kids.length cr], NX (krTr fNd) w no (valR x.g d row) [.int .i64 (valR x.g d row).x.kind, .string (valR x.g d row).x.name, .int .i64 (valR x.g d row).x.tok, .slice Ar (valR x.g d row).kids.length cr], Row (fInt .i64) 3 (.slice A23 (row ++ [-9, -9]).length c23) (row ++ [-9, -9]), Blk b3 53 [.int .i64 d.x.prod, .int .i64 d.x.tok, .slice B d.kids.length k, .slice A row.length c]] W) (fun s' => (valR x.g d row).kids.length - s'.1) (0, cs) (sc rfl (sc rfl (sc rfl (sc rfl (sc rfl (sc rfl (sc rfl (sc rfl (sn _))))))))) ⟨⟨Nat.zero_le _, hcl⟩, H.pm (by repeat (first | exact pm_refl _ | constructor | refine pm_skip ?_))⟩ ?_
   rintro ⟨p, cs3⟩ W3 ⟨⟨hp, hc3⟩, H⟩
   dsimp only at hp hc3 H ⊢
   refine wcR ?_
   refine wV (v_lss rfl rfl) ?_
   refine wl_nil ?_
   refine wc_seq ?_
   refine wc_cond rfl (fun c6 => ?_) (fun c6 => ?_)
   ·have c6p := oT c6
    refine wc_skip ?_
    refine wc_seq ?_
    refine wc_block ?_
    refine wcR ?_
    refine wM ?_
    refine wA ?_
    refine wl_nil ?_
    refine wc_region ?_
    refine wV (v_fb (o2 := 3) fa24_3 rfl rfl) ?_
    refine wV (v_load one22 rfl (H.at (by repeat constructor) rfl)) ?_
    refine wM ?_
    refine wV (v_bld ba24 rfl (by repeat constructor)) ?_
    refine wV (v_idx Try.underlying22 sz24 (fun h_ => (H.oRd (f := fNd) (e := 24) (A := Ap) (c := cp) (ts := cs3) (x := ⟨0, ⟨#[]⟩, 0⟩) (by repeat constructor)).ad (by omega)) rfl rfl (by omega) (by omega)) ?_
    refine wl_storeO nd0 (i := (p : Int)) (x' := ⟨77, ⟨#[]⟩, 0⟩) H (by repeat constructor) sz24 rfl rfl rfl (by omega) (by omega) ?_
    intro w51 H51
    rw [Int.toNat_natCast] at H51
    refine wl_nil ?_
    refine wc_region ?_
    refine wV (v_addi rfl rfl (by omega)) ?_
    refine wM ?_
    refine wl_nil ?_
    exact ⟨(p + 1, cs3.set p (.mk ⟨77, ⟨#[]⟩, 0⟩ [])), (sc rfl (sc rfl (sc rfl (sc rfl (sc rfl (sc rfl (sc rfl (sc rfl (sn _))))))))), ⟨⟨by dsimp only; omega, by dsimp only; rw [List.length_set]; exact hc3⟩, H51.pm (by repeat (first | exact pm_refl _ | constructor | refine pm_skip ?_))⟩, by dsimp only; omega⟩
   have c6p := oF c6
   refine wc_exit ?_
   refine wcR ?_
   refine wV (v_fb (o2 := 3) fa24_3 rfl rfl) ?_
   refine wV (v_load one22 rfl (H.at (by repeat constructor) rfl)) ?_
   refine wV (v_bld ba24 rfl (by repeat constructor)) ?_
   refine wV (v_bld ba24 rfl (by repeat constructor)) ?_
   refine wl_slit (v := .agg #[.int .i64 0, .string ⟨#[]⟩, .int .i64 0, .slice none 0 0]) (z := [.int .i64 0, .string ⟨#[]⟩, .int .i64 0, .slice none 0 0, .int .i64 0, .string ⟨#[]⟩, .int .i64 0, .slice none 0 0]) (cs := [.int .i64 0, .string ⟨#[]⟩, .int .i64 0, .slice none 0 0, .int .i64 0, .string ⟨#[]⟩, .int .i64 0, .slice none 0 0]) (sz := 4) H rfl Try.underlying22 sz24 zv24 (by decide) (by decide) (by kernel_rfl) rfl (by repeat constructor) ?_
   intro b135 w52 hb135 H52 hs52
   refine wl_appDropO (f := fNd) (news := [.int .i64 0, .string ⟨#[]⟩, .int .i64 0, .slice none 0 0, .int .i64 0, .string ⟨#[]⟩, .int .i64 0, .slice none 0 0]) (e := 24) (ts := cs3) H52 (by repeat constructor) rfl Try.underlying22 info24 rfl rfl rfl (fun _ => rfl) rfl (H52.ats (b := b135) (by repeat constructor)) (by intro u_ hu_; simp only [List.mem_cons, List.not_mem_nil, or_false] at hu_; rcases hu_ with rfl | rfl | rfl | rfl | rfl | rfl | rfl | rfl <;> rfl) (show (cs3.length + 2) * 56 ≤ 140737488355328 by omega) (by decide) (by decide) ?_
   intro v136 w53 H53 hs53
   refine wl_nil ?_
   refine wcR ?_
   refine wV (v_loadN agg24 rfl rfl (H53.ats (by repeat constructor))) ?_
   refine wV (v_loadN agg24 rfl rfl (H53.ats (by repeat constructor))) ?_
   refine wl_call en14 rfl rfl (rsame_calls (valR x.g d row) (valR x.g d row) _ Aq Ar cq cr (H53.oRd (f := fNd) (e := 24) (A := Aq) (ts := (valR x.g d row).kids) (x := ⟨0, ⟨#[]⟩, 0⟩) (by repeat constructor)) (H53.nxRd (by repeat constructor)) hvf) ?_
   rintro _ w54 ⟨rfl, Hc⟩
   have H55 := H53.call0 Hc
   refine wM ?_
   refine wl_on' rfl rfl (dec_t rfl) ?_
   refine wM ?_
   refine wl_on' rfl rfl (dec_t rfl) ?_
   refine wV (v_fb (o2 := 3) fa53_1 rfl rfl) ?_
   refine wl_on' rfl rfl (dec_t rfl) ?_
   refine wV (v_load one51 rfl (H55.at (by repeat constructor) rfl)) ?_
   refine wl_on' rfl rfl (dec_t rfl) ?_
   refine wl_call en23 rfl rfl (sameRow_calls (mine_rd (H55.rrd (f := fInt .i64) (e := 3) (A := A23) (xs := (row ++ [-9, -9])) (by repeat constructor))) (hr.below H55.old) (by omega)) ?_
   rintro _ w56 ⟨rfl, Hc⟩
   have H57 := H55.call0 Hc
   refine wV (v_pick_t rfl (dec_t rfl) rfl) ?_
   refine wM ?_
   refine wO rfl ?_
   refine wM ?_
   refine wO rfl ?_
   refine wV (v_fb (o2 := 3) fa53_1 rfl rfl) ?_
   refine wO rfl ?_
   refine wV (v_load one51 rfl (H57.at (by repeat constructor) rfl)) ?_
   refine wO rfl ?_
   refine wV (v_len Try.underlying51 rfl) ?_
   refine wO rfl ?_
   refine wV (v_idx Try.underlying51 sz3 (H57.rrd (f := fInt .i64) (e := 3) (A := A23) (xs := (row ++ [-9, -9])) (by repeat constructor)).ad rfl rfl (by omega) (by omega)) ?_
   refine wO rfl ?_
   refine wV (v_load one3 rfl ((H57.rrd (f := fInt .i64) (e := 3) (A := A23) (xs := (row ++ [-9, -9])) (by repeat constructor)).at1N (i := row.length) (show row.length < (row ++ [-9, -9]).length by omega))) ?_
   refine wO rfl ?_
   refine wV (v_eql rfl rfl) ?_
   refine wV (v_pick_t rfl rfl rfl) ?_
   refine wA ?_
   refine wl_nil ?_
   refine wc_ret ?_
   exact ⟨_, res1 rfl rfl, congrArg Value.bool (decide_eq_true (own_last row)), H57.pm (by repeat (first | exact pm_refl _ | constructor | refine pm_skip ?_))⟩
  have c2p := oT c2
  have hin : i < (valR x.g d row).kids.length := by omega
  have hkb := (Tr.All_eq _).1 (Tr.Alls_at nd0 hin hv2)
  have hkb1 := hkb.1
  unfold few at hkb1
  have hci := hce i (Nat.le_refl _)
  have hcm : (cs.getD i nd0).kids.length = ((valR x.g d row).kids.getD i nd0).kids.length := by rw [hci]
  refine wc_skip ?_
  refine wc_seq ?_
  refine wc_block ?_
  refine wcR ?_
  refine wM ?_
  refine wA ?_
  refine wl_nil ?_
  refine wc_seq ?_
  refine wcR ?_
  refine wV (v_fb (o2 := 3) fa24_3 rfl rfl) ?_
  refine wV (v_load one22 rfl (H.at (by repeat constructor) rfl)) ?_
  refine wM ?_
  refine wV (v_idx Try.underlying22 sz24 (fun h_ => (H.oRd (f := fNd) (e := 24) (A := Ap) (c := cp) (ts := cs) (x := ⟨0, ⟨#[]⟩, 0⟩) (by repeat constructor)).ad (by omega)) rfl rfl (by omega) (by omega)) ?_
  refine wV (v_fp fa24_3 rfl) ?_
  obtain ⟨B72_, k72_, hc72_, hl72_, hr72_⟩ := (H.oRd (f := fNd) (e := 24) (A := Ap) (c := cp) (ts := cs) (x := ⟨0, ⟨#[]⟩, 0⟩) (by repeat constructor)).atTr nd0 (i := i) (by omega)
  refine wV (v_load one22 rfl (hc72_ 3 _ rfl)) ?_
  refine wV (v_len Try.underlying22 rfl) ?_
  refine wM ?_
  refine wl_nil ?_
  refine wc_block ?_
  refine wc_loop (σ := Nat × List Nd) (fun s' => [(3, .pointer (some ⟨b3, 0, none⟩)), (5, .slice A23 (row ++ [-9, -9]).length c23), (6, .slice A23 row.length c23), (7, .pointer (some ⟨b7, 0, none⟩)), (9, .pointer (some ⟨b9, 0, none⟩)), (11, .pointer (some ⟨b11, 0, none⟩)), (13, .int .i64 i), (63, .int .i64 (valR x.g d row).kids.length), (64, .int .i64 i), (73, .int .i64 (cs.getD i nd0).kids.length), (74, .int .i64 s'.1)]) (fun s' W => (s'.1 ≤ (cs.getD i nd0).kids.length ∧ s'.2.length = (valR x.g d row).kids.length ∧ (s'.2.getD i nd0).kids.length = (cs.getD i nd0).kids.length ∧ ∀ j, i < j → s'.2.getD j nd0 = (valR x.g d row).kids.getD j nd0) ∧ Holds w [ORow fNd 24 (.slice Ap (valR x.g d row).kids.length cp) s'.2, Blk b7 24 [.int .i64 (valR x.g d row).x.kind, .string (valR x.g d row).x.name, .int .i64 (valR x.g d row).x.tok, .slice Ap (valR x.g d row).kids.length cp], Blk b9 24 [.int .i64 (valR x.g d row).x.kind, .string (valR x.g d row).x.name, .int .i64 (valR x.g d row).x.tok, .slice Aq (valR x.g d row).kids.length cq], ORow fNd 24 (.slice Aq (valR x.g d row).kids.length cq) (valR x.g d row).kids, Blk b11 24 [.int .i64 (valR x.g d row).x.kind, .string (valR x.g d row).x.name, .int .i64 (valR x.g d row).x.tok, .slice Ar (valR x.g d row).kids.length cr], NX (krTr fNd) w no (valR x.g d row) [.int .i64 (valR x.g d row).x.kind, .string (valR x.g d row).x.name, .int .i64 (valR x.g d row).x.tok, .slice Ar (valR x.g d row).kids.length cr], Row (fInt .i64) 3 (.slice A23 (row ++ [-9, -9]).length c23) (row ++ [-9, -9]), Blk b3 53 [.int .i64 d.x.prod, .int .i64 d.x.tok, .slice B d.kids.length k, .slice A row.length c]] W) (fun s' => (cs.getD i nd0).kids.length - s'.1) (0, cs) (sc rfl (sc rfl (sc rfl (sc rfl (sc rfl (sc rfl (sc rfl (sc rfl (sc rfl (sc rfl (sc rfl (sn _)))))))))))) ⟨⟨Nat.zero_le _, hcl, rfl, fun j hj => hce j (by omega)⟩, H.pm (by repeat (first | exact pm_refl _ | constructor | refine pm_skip ?_))⟩ ?_
  rintro ⟨q, cs2⟩ W1 ⟨⟨hq, hc2, hck, hcj⟩, H⟩
  dsimp only at hq hc2 hck hcj H ⊢
  refine wcR ?_
  refine wV (v_lss rfl rfl) ?_
  refine wl_nil ?_
  refine wc_seq ?_
  refine wc_cond rfl (fun c3 => ?_) (fun c3 => ?_)
  ·have c3p := oT c3
   refine wc_skip ?_
   refine wc_seq ?_
   refine wc_block ?_
   refine wcR ?_
   refine wM ?_
   refine wA ?_
   refine wl_nil ?_
   refine wc_region ?_
   refine wV (v_fb (o2 := 3) fa24_3 rfl rfl) ?_
   refine wV (v_load one22 rfl (H.at (by repeat constructor) rfl)) ?_
   refine wM ?_
   refine wV (v_idx Try.underlying22 sz24 (fun h_ => (H.oRd (f := fNd) (e := 24) (A := Ap) (c := cp) (ts := cs2) (x := ⟨0, ⟨#[]⟩, 0⟩) (by repeat constructor)).ad (by omega)) rfl rfl (by omega) (by omega)) ?_
   refine wV (v_fp fa24_3 rfl) ?_
   obtain ⟨B82_, k82_, hc82_, hl82_, hr82_⟩ := (H.oRd (f := fNd) (e := 24) (A := Ap) (c := cp) (ts := cs2) (x := ⟨0, ⟨#[]⟩, 0⟩) (by repeat constructor)).atTr nd0 (i := i) (by omega)
   refine wV (v_load one22 rfl (hc82_ 3 _ rfl)) ?_
   refine wM ?_
   refine wV (v_bld ba24 rfl (by repeat constructor)) ?_
   refine wV (v_idx Try.underlying22 sz24 (fun h_ => hr82_.ad h_) rfl rfl (by omega) (by omega)) ?_
   refine wl_storeOO nd0 (j := i) (i := (q : Int)) (x' := ⟨78, ⟨#[]⟩, 0⟩) H (by repeat constructor) (by omega) (hc82_ 3 _ rfl) sz24 rfl rfl rfl (by omega) (by omega) ?_
   intro w33 H33
   rw [Int.toNat_natCast] at H33
   refine wl_nil ?_
   refine wc_region ?_
   refine wV (v_addi rfl rfl (by omega)) ?_
   refine wM ?_
   refine wl_nil ?_
   exact ⟨(q + 1, cs2.set i (.mk (cs2.getD i nd0).x ((cs2.getD i nd0).kids.set q (.mk ⟨78, ⟨#[]⟩, 0⟩ [])))), (sc rfl (sc rfl (sc rfl (sc rfl (sc rfl (sc rfl (sc rfl (sc rfl (sc rfl (sc rfl (sc rfl (sn _)))))))))))), ⟨⟨by dsimp only; omega, by dsimp only; rw [List.length_set]; exact hc2, by dsimp only; rw [set_at (by omega)]; exact (List.length_set ..).trans hck, fun j hj => by dsimp only; rw [set_off (by omega)]; exact hcj j hj⟩, H33.pm (by repeat (first | exact pm_refl _ | constructor | refine pm_skip ?_))⟩, by dsimp only; omega⟩
  have c3p := oF c3
  refine wc_exit ?_
  refine wcR ?_
  refine wV (v_fb (o2 := 3) fa24_3 rfl rfl) ?_
  refine wV (v_load one22 rfl (H.at (by repeat constructor) rfl)) ?_
  refine wM ?_
  refine wV (v_idx Try.underlying22 sz24 (fun h_ => (H.oRd (f := fNd) (e := 24) (A := Ap) (c := cp) (ts := cs2) (x := ⟨0, ⟨#[]⟩, 0⟩) (by repeat constructor)).ad (by omega)) rfl rfl (by omega) (by omega)) ?_
  refine wV (v_fp fa24_3 rfl) ?_
  obtain ⟨q92, R92, g92_, H34, hb92_⟩ := (H.turn (A := ORow fNd 24 (.slice Ap (valR x.g d row).kids.length cp) cs2) (by repeat constructor)).oAt nd0 (j := i) (by omega)
  refine wV (v_load (v := slV q92) one22 rfl g92_) ?_
  refine wV (v_bld ba24 rfl (by repeat constructor)) ?_
  refine wV (v_bld ba24 rfl (by repeat constructor)) ?_
  refine wl_slit (v := .agg #[.int .i64 0, .string ⟨#[]⟩, .int .i64 0, .slice none 0 0]) (z := [.int .i64 0, .string ⟨#[]⟩, .int .i64 0, .slice none 0 0, .int .i64 0, .string ⟨#[]⟩, .int .i64 0, .slice none 0 0]) (cs := [.int .i64 0, .string ⟨#[]⟩, .int .i64 0, .slice none 0 0, .int .i64 0, .string ⟨#[]⟩, .int .i64 0, .slice none 0 0]) (sz := 4) H34 rfl Try.underlying22 sz24 zv24 (by decide) (by decide) (by kernel_rfl) rfl (by repeat constructor) ?_
  intro b95 w35 hb95 H35 hs35
  have hkm := (show ((cs2.getD i nd0).kids.length + 2) * 56 ≤ 140737488355328 by omega)
  refine wl_appDropO (f := fNd) (news := [.int .i64 0, .string ⟨#[]⟩, .int .i64 0, .slice none 0 0, .int .i64 0, .string ⟨#[]⟩, .int .i64 0, .slice none 0 0]) (e := 24) (ts := (cs2.getD i nd0).kids) H35 (.there _ (.here _ _)) rfl Try.underlying22 info24 rfl rfl rfl (fun _ => rfl) rfl (H35.ats (b := b95) (.here _ _ _)) (by intro u_ hu_; simp only [List.mem_cons, List.not_mem_nil, or_false] at hu_; rcases hu_ with rfl | rfl | rfl | rfl | rfl | rfl | rfl | rfl <;> rfl) hkm (by decide) (by decide) ?_
  intro v96 w36 H36 hs36
  have H36b := hb92_ _ _ (H36.drop (.there _ (.here _ _)))
  rw [set_id (by omega)] at H36b
  refine wl_nil ?_
  refine wcR ?_
  refine wM ?_
  refine wV (v_addi rfl rfl (by omega)) ?_
  refine wA ?_
  refine wl_nil ?_
  refine wc_block ?_
  refine wc_loop (σ := Nat) (fun s => [(3, .pointer (some ⟨b3, 0, none⟩)), (5, .slice A23 (row ++ [-9, -9]).length c23), (6, .slice A23 row.length c23), (7, .pointer (some ⟨b7, 0, none⟩)), (9, .pointer (some ⟨b9, 0, none⟩)), (11, .pointer (some ⟨b11, 0, none⟩)), (63, .int .i64 (valR x.g d row).kids.length), (64, .int .i64 i), (15, .int .i64 s)]) (fun s W => (i + 1 ≤ s ∧ s ≤ (valR x.g d row).kids.length) ∧ Holds w [ORow fNd 24 (.slice Ap (valR x.g d row).kids.length cp) cs2, Blk b7 24 [.int .i64 (valR x.g d row).x.kind, .string (valR x.g d row).x.name, .int .i64 (valR x.g d row).x.tok, .slice Ap (valR x.g d row).kids.length cp], Blk b9 24 [.int .i64 (valR x.g d row).x.kind, .string (valR x.g d row).x.name, .int .i64 (valR x.g d row).x.tok, .slice Aq (valR x.g d row).kids.length cq], ORow fNd 24 (.slice Aq (valR x.g d row).kids.length cq) (valR x.g d row).kids, Blk b11 24 [.int .i64 (valR x.g d row).x.kind, .string (valR x.g d row).x.name, .int .i64 (valR x.g d row).x.tok, .slice Ar (valR x.g d row).kids.length cr], NX (krTr fNd) w no (valR x.g d row) [.int .i64 (valR x.g d row).x.kind, .string (valR x.g d row).x.name, .int .i64 (valR x.g d row).x.tok, .slice Ar (valR x.g d row).kids.length cr], Row (fInt .i64) 3 (.slice A23 (row ++ [-9, -9]).length c23) (row ++ [-9, -9]), Blk b3 53 [.int .i64 d.x.prod, .int .i64 d.x.tok, .slice B d.kids.length k, .slice A row.length c]] W) (fun s => (valR x.g d row).kids.length - s) (i + 1) (sc rfl (sc rfl (sc rfl (sc rfl (sc rfl (sc rfl (sc rfl (sc rfl (sc rfl (sn _)))))))))) ⟨⟨Nat.le_refl _, by omega⟩, H36b.pm (by repeat (first | exact pm_refl _ | constructor | refine pm_skip ?_))⟩ ?_
  rintro p W2 ⟨⟨hp1, hp2⟩, H⟩
  refine wc_seq ?_
  refine wcR ?_
  refine wM ?_
  refine wV (v_fb (o2 := 3) fa24_3 rfl rfl) ?_
  refine wV (v_load one22 rfl (H.at (by repeat constructor) rfl)) ?_
  refine wV (v_len Try.underlying22 rfl) ?_
  refine wV (v_lss rfl rfl) ?_
  refine wl_nil ?_
  refine wc_cond rfl (fun c4 => ?_) (fun c4 => ?_)
  rotate_left
  ·have c4p := oF c4
   refine wc_exit ?_
   refine wc_region ?_
   refine wV (v_addi rfl rfl (by omega)) ?_
   refine wM ?_
   refine wl_nil ?_
   exact ⟨(i + 1, cs2), (sc rfl (sc rfl (sc rfl (sc rfl (sc rfl (sc rfl (sc rfl (sc rfl (sn _))))))))), ⟨⟨by dsimp only; omega, hc2, fun j hj => hcj j (by dsimp only at hj; omega)⟩, H.pm (by repeat (first | exact pm_refl _ | constructor | refine pm_skip ?_))⟩, by dsimp only; omega⟩
  have c4p := oT c4
  have hadA : 0 < (valR x.g d row).kids.length → Ap = some (adr Ap) := fun h_ => (H.oRd (f := fNd) (e := 24) (A := Ap) (c := cp) (ts := cs2) (x := ⟨0, ⟨#[]⟩, 0⟩) (by repeat constructor)).ad (by omega)
  have hadR : 0 < (valR x.g d row).kids.length → Ar = some (adr Ar) := (H.nxRd (by repeat constructor)).ad
  refine wc_skip ?_
  refine wc_seq ?_
  refine wc_block ?_
  refine wc_seq ?_
  refine wc_tree [0, 1, 2, 3, 5, 6, 7, 8, 11] (fun W => Holds w [Blk b7 24 [.int .i64 (valR x.g d row).x.kind, .string (valR x.g d row).x.name, .int .i64 (valR x.g d row).x.tok, .slice Ap (valR x.g d row).kids.length cp], Blk b11 24 [.int .i64 (valR x.g d row).x.kind, .string (valR x.g d row).x.name, .int .i64 (valR x.g d row).x.tok, .slice Ar (valR x.g d row).kids.length cr]] W) mixed ?_
  have Hd := H.drew
  have HSd : Holds w [Blk b7 24 [.int .i64 (valR x.g d row).x.kind, .string (valR x.g d row).x.name, .int .i64 (valR x.g d row).x.tok, .slice Ap (valR x.g d row).kids.length cp], Blk b11 24 [.int .i64 (valR x.g d row).x.kind, .string (valR x.g d row).x.name, .int .i64 (valR x.g d row).x.tok, .slice Ar (valR x.g d row).kids.length cr]] _ := Hd.pm (by repeat (first | exact pm_refl _ | constructor | refine pm_skip ?_))
  refine wjV (k := 0) rfl HSd (fun W HW => v_fb (o2 := 3) fa24_3 rfl rfl) ?_
  refine wjV (k := 1) rfl HSd (fun W HW => v_load one22 rfl (HW.at (by repeat constructor) rfl)) ?_
  refine wjV (k := 2) rfl HSd (fun W HW => v_move rfl) ?_
  refine wjV (k := 3) rfl HSd (fun W HW => v_idx Try.underlying22 sz24 hadA rfl rfl (by omega) (by omega)) ?_
  refine wjV (k := 5) rfl HSd (fun W HW => v_fb (o2 := 3) fa24_3 rfl rfl) ?_
  refine wjV (k := 6) rfl HSd (fun W HW => v_load one22 rfl (HW.at (by repeat constructor) rfl)) ?_
  refine wjV (k := 7) rfl HSd (fun W HW => v_move rfl) ?_
  refine wjV (k := 8) rfl HSd (fun W HW => v_idx Try.underlying22 sz24 hadR rfl rfl (by omega) (by omega)) ?_
  refine wj_2 (k := 4) (k2 := 9) rfl rfl (by kernel_rfl) ?_ ?_
  ·obtain ⟨B110_, k110_, hc110_, hl110_, hr110_⟩ := (Hd.oRd (f := fNd) (e := 24) (A := Ap) (c := cp) (ts := cs2) (x := ⟨0, ⟨#[]⟩, 0⟩) (by repeat constructor)).atTr nd0 (i := p) (by omega)
   refine wV (v_loadN (cs := [.int .i64 (cs2.getD p nd0).x.kind, .string (cs2.getD p nd0).x.name, .int .i64 (cs2.getD p nd0).x.tok, .slice B110_ (cs2.getD p nd0).kids.length k110_]) agg24 rfl rfl hc110_) ?_
   have HS38 : Holds w [Blk b7 24 [.int .i64 (valR x.g d row).x.kind, .string (valR x.g d row).x.name, .int .i64 (valR x.g d row).x.tok, .slice Ap (valR x.g d row).kids.length cp], Blk b11 24 [.int .i64 (valR x.g d row).x.kind, .string (valR x.g d row).x.name, .int .i64 (valR x.g d row).x.tok, .slice Ar (valR x.g d row).kids.length cr]] _ := Hd.pm (by repeat (first | exact pm_refl _ | constructor | refine pm_skip ?_))
   refine wl_nil (tn ⟨fun _ => HS38, ?_⟩)
   refine wj_t (k := 9) rfl (by kernel_rfl) ?_
   obtain ⟨B115_, k115_, hc115_, hl115_, hr115_⟩ := (Hd.nxRd (by repeat constructor)).atTr nd0 (i := p) (by omega)
   refine wV (v_loadN (cs := [.int .i64 ((valR x.g d row).kids.getD p nd0).x.kind, .string ((valR x.g d row).kids.getD p nd0).x.name, .int .i64 ((valR x.g d row).kids.getD p nd0).x.tok, .slice B115_ ((valR x.g d row).kids.getD p nd0).kids.length k115_]) agg24 rfl rfl hc115_) ?_
   have HS40 : Holds w [Blk b7 24 [.int .i64 (valR x.g d row).x.kind, .string (valR x.g d row).x.name, .int .i64 (valR x.g d row).x.tok, .slice Ap (valR x.g d row).kids.length cp], Blk b11 24 [.int .i64 (valR x.g d row).x.kind, .string (valR x.g d row).x.name, .int .i64 (valR x.g d row).x.tok, .slice Ar (valR x.g d row).kids.length cr]] _ := Hd.pm (by repeat (first | exact pm_refl _ | constructor | refine pm_skip ?_))
   refine wl_nil (tn ⟨fun _ => HS40, ?_⟩)
   refine wj_t (k := 10) rfl (by kernel_rfl) ?_
   refine wl_call en14 rfl rfl (rsame_calls (cs2.getD p nd0) ((valR x.g d row).kids.getD p nd0) _ _ _ _ _ hr110_ hr115_ (by rw [hcj p (by omega)]; exact Tr.Alls_at nd0 (by omega) hv2)) ?_
   rintro _ w41 ⟨rfl, Hc⟩
   have H42 := Hd.call0 Hc
   have HS43 : Holds w [Blk b7 24 [.int .i64 (valR x.g d row).x.kind, .string (valR x.g d row).x.name, .int .i64 (valR x.g d row).x.tok, .slice Ap (valR x.g d row).kids.length cp], Blk b11 24 [.int .i64 (valR x.g d row).x.kind, .string (valR x.g d row).x.name, .int .i64 (valR x.g d row).x.tok, .slice Ar (valR x.g d row).kids.length cr]] _ := H42.pm (by repeat (first | exact pm_refl _ | constructor | refine pm_skip ?_))
   refine wl_nil (tn ⟨fun _ => HS43, ?_⟩)
   refine wjV (k := 11) rfl HS43 (fun W HW => v_not rfl) ?_
   refine wj_done (by kernel_rfl) ?_
   refine wc_cond rfl (fun c5 => ?_) (fun c5 => ?_)
   ·have c5p := of_n_t c5
    exact absurd (of_n_t c5) (by rw [dec_t (hcj p (by omega))]; decide)
   have c5p := of_n_f c5
   refine wc_skip ?_
   refine wc_region ?_
   refine wM ?_
   refine wV (v_addi rfl rfl (by omega)) ?_
   refine wA ?_
   refine wl_nil ?_
   exact ⟨p + 1, (sc rfl (sc rfl (sc rfl (sc rfl (sc rfl (sc rfl (sc rfl (sc rfl (sc rfl (sn _)))))))))), ⟨⟨by omega, by omega⟩, H42.pm (by repeat (first | exact pm_refl _ | constructor | refine pm_skip ?_))⟩, by omega⟩
  ·obtain ⟨B115_, k115_, hc115_, hl115_, hr115_⟩ := (Hd.nxRd (by repeat constructor)).atTr nd0 (i := p) (by omega)
   refine wV (v_loadN (cs := [.int .i64 ((valR x.g d row).kids.getD p nd0).x.kind, .string ((valR x.g d row).kids.getD p nd0).x.name, .int .i64 ((valR x.g d row).kids.getD p nd0).x.tok, .slice B115_ ((valR x.g d row).kids.getD p nd0).kids.length k115_]) agg24 rfl rfl hc115_) ?_
   have HS45 : Holds w [Blk b7 24 [.int .i64 (valR x.g d row).x.kind, .string (valR x.g d row).x.name, .int .i64 (valR x.g d row).x.tok, .slice Ap (valR x.g d row).kids.length cp], Blk b11 24 [.int .i64 (valR x.g d row).x.kind, .string (valR x.g d row).x.name, .int .i64 (valR x.g d row).x.tok, .slice Ar (valR x.g d row).kids.length cr]] _ := Hd.pm (by repeat (first | exact pm_refl _ | constructor | refine pm_skip ?_))
   refine wl_nil (tn ⟨fun _ => HS45, ?_⟩)
   refine wj_t (k := 4) rfl (by kernel_rfl) ?_
   obtain ⟨B110_, k110_, hc110_, hl110_, hr110_⟩ := (Hd.oRd (f := fNd) (e := 24) (A := Ap) (c := cp) (ts := cs2) (x := ⟨0, ⟨#[]⟩, 0⟩) (by repeat constructor)).atTr nd0 (i := p) (by omega)
   refine wV (v_loadN (cs := [.int .i64 (cs2.getD p nd0).x.kind, .string (cs2.getD p nd0).x.name, .int .i64 (cs2.getD p nd0).x.tok, .slice B110_ (cs2.getD p nd0).kids.length k110_]) agg24 rfl rfl hc110_) ?_
   have HS47 : Holds w [Blk b7 24 [.int .i64 (valR x.g d row).x.kind, .string (valR x.g d row).x.name, .int .i64 (valR x.g d row).x.tok, .slice Ap (valR x.g d row).kids.length cp], Blk b11 24 [.int .i64 (valR x.g d row).x.kind, .string (valR x.g d row).x.name, .int .i64 (valR x.g d row).x.tok, .slice Ar (valR x.g d row).kids.length cr]] _ := Hd.pm (by repeat (first | exact pm_refl _ | constructor | refine pm_skip ?_))
   refine wl_nil (tn ⟨fun _ => HS47, ?_⟩)
   refine wj_t (k := 10) rfl (by kernel_rfl) ?_
   refine wl_call en14 rfl rfl (rsame_calls (cs2.getD p nd0) ((valR x.g d row).kids.getD p nd0) _ _ _ _ _ hr110_ hr115_ (by rw [hcj p (by omega)]; exact Tr.Alls_at nd0 (by omega) hv2)) ?_
   rintro _ w48 ⟨rfl, Hc⟩
   have H49 := Hd.call0 Hc
   have HS50 : Holds w [Blk b7 24 [.int .i64 (valR x.g d row).x.kind, .string (valR x.g d row).x.name, .int .i64 (valR x.g d row).x.tok, .slice Ap (valR x.g d row).kids.length cp], Blk b11 24 [.int .i64 (valR x.g d row).x.kind, .string (valR x.g d row).x.name, .int .i64 (valR x.g d row).x.tok, .slice Ar (valR x.g d row).kids.length cr]] _ := H49.pm (by repeat (first | exact pm_refl _ | constructor | refine pm_skip ?_))
   refine wl_nil (tn ⟨fun _ => HS50, ?_⟩)
   refine wjV (k := 11) rfl HS50 (fun W HW => v_not rfl) ?_
   refine wj_done (by kernel_rfl) ?_
   refine wc_cond rfl (fun c5 => ?_) (fun c5 => ?_)
   ·have c5p := of_n_t c5
    exact absurd (of_n_t c5) (by rw [dec_t (hcj p (by omega))]; decide)
   have c5p := of_n_f c5
   refine wc_skip ?_
   refine wc_region ?_
   refine wM ?_
   refine wV (v_addi rfl rfl (by omega)) ?_
   refine wA ?_
   refine wl_nil ?_
   exact ⟨p + 1, (sc rfl (sc rfl (sc rfl (sc rfl (sc rfl (sc rfl (sc rfl (sc rfl (sc rfl (sn _)))))))))), ⟨⟨by omega, by omega⟩, H49.pm (by repeat (first | exact pm_refl _ | constructor | refine pm_skip ?_))⟩, by omega⟩
end Go.Proofs.Ytgdemplcpcacaaa.BOwn

/-! How the arguments' types are read (seat 21). -/
namespace Go.Proofs.Ytgdemplcpcacaaa.RowTy
open Go Go.ChangeShapes Go.WideShapes Go.ChangeAt Go.RowKit Go.Deep Go.Joins Go.Proofs.YtgdemplcpcacaaaFx
theorem own : ownKnob Try.prog.godebug = none := by kernel_rfl
theorem laidOut : laidOutB Try.prog = true := by kernel_rfl
theorem rInt : Rds Try.prog 3 (kInt .i64) (fun a n => (Lit.int .i64 a).wf = true ∧ 1 ≤ n) := rds_int Try.underlying3 (by kernel_rfl)
theorem rStr : Rds Try.prog 9 kStr (fun a n => a.size + 1 ≤ n) := rds_str Try.underlying9 (by kernel_rfl)
theorem rRow : Rds Try.prog 51 (kInt .i64).sl (fun xs n => xs.length + 1 ≤ n ∧ ∀ x ∈ xs, ∃ m, m ≤ n ∧ (Lit.int .i64 x).wf = true ∧ 1 ≤ m) := rds_sl Try.underlying51 (by kernel_rfl) rInt
theorem rStrs : Rds Try.prog 40 kStr.sl (fun xs n => xs.length + 1 ≤ n ∧ ∀ x ∈ xs, ∃ m, m ≤ n ∧ x.size + 1 ≤ m) := rds_sl Try.underlying40 (by kernel_rfl) rStr
theorem gT : GTypes Try.prog 3 9 69 67 51 73 where
  i := rInt
  z := rStr
  a := ⟨_, _, _, _, Try.underlying69, rfl, rfl, rfl, rfl⟩
  ca := by kernel_rfl
  s := Try.underlying67
  cs := by kernel_rfl
  r := rRow
  p := ⟨_, _, _, _, Try.underlying73, rfl, rfl, rfl, rfl⟩
  cp := by kernel_rfl
theorem rPc : Rds Try.prog 145 fMv.kn (fun a n => (I64 a.d ∧ I64 a.n) ∧ 1 ≤ n) := rds_mv Try.underlying145 Try.underlying3 (by kernel_rfl) (by kernel_rfl) rfl rfl
theorem gT2 : GTypes2 Try.prog 3 73 40 41 42 44 where
  k := rStrs
  c := rds_sl Try.underlying41 (by kernel_rfl) rPc
  q := Try.underlying42
  cq := by kernel_rfl
  g := ⟨_, _, _, _, _, Try.underlying44, rfl, rfl, rfl, rfl, rfl⟩
  cg := by kernel_rfl
theorem dT : DtTypes Try.prog 9 40 80 81 83 45 where
  z := rStr
  zs := rStrs
  c := ⟨_, _, Try.underlying80, rfl, rfl⟩
  cc := by kernel_rfl
  cs := Try.underlying81
  ccs := by kernel_rfl
  d := ⟨_, _, Try.underlying83, rfl, rfl⟩
  cd := by kernel_rfl
  ds := Try.underlying45
  cds := by kernel_rfl
theorem gvT : GvTypes Try.prog 44 45 40 47 := ⟨⟨_, _, _, Try.underlying47, rfl, rfl, rfl⟩, by kernel_rfl⟩
theorem dvT : DvTypes Try.prog 3 50 48 := ⟨rInt, ⟨_, _, _, Try.underlying50, rfl, rfl, rfl⟩, by kernel_rfl, Try.underlying48, by kernel_rfl⟩
theorem teT : TeTypes Try.prog 50 51 53 := ⟨⟨_, _, Try.underlying53, rfl, rfl⟩, by kernel_rfl⟩
theorem ndT : NdTypes Try.prog 3 9 24 22 := ⟨rInt, rStr, ⟨_, _, _, _, Try.underlying24, rfl, rfl, rfl, rfl⟩, by kernel_rfl, Try.underlying22, by kernel_rfl⟩
/-- A node, read. -/
theorem rd_nd {H : Type} {enc : TypeId × Value → H} {w : World} {base : Nat} {spare : Nat → Bool} {held : Bool} {fuel : Nat} {cs : List Value} {x : DataW H × List MemPlace} (h : DataW.trod enc Try.prog w base spare held fuel 24 cs = some x) (hN : Rows.uptoBulk x.1 ≤ 1048576) :
    ∃ (t : Nd) (A : Option Addr) (k : Nat), cs = [.int .i64 t.x.kind, .string t.x.name, .int .i64 t.x.tok, .slice A t.kids.length k] ∧ Rd (kTr fNd) w A t.kids ∧ t.cnt ≤ 1048576 ∧ t.All (ndSm 1048576) ∧ t.kids.length ≤ k := by
  obtain ⟨t, hk, h1, h2⟩ := (rdsN_nd ndT (Rows.uptoBulk x.1)).rd h (Nat.le_refl _)
  obtain ⟨A, k, hA, hl, hr⟩ := Tr.K.open hk
  exact ⟨t, A, k, hA, hr, by omega, Tr.All.imp (fun y k hy => ⟨by have := hy.1; omega, by have := hy.2; omega⟩) t h2, hl⟩
theorem small_nd {t : Nd} (h : t.All (ndSm 1048576)) : t.All smallN := Tr.All.imp (fun y k hy => ⟨by have := hy.1; omega, by have := hy.2; omega⟩) t h
/-- Data, read. -/
theorem rd_dts {H : Type} {enc : TypeId × Value → H} {w : World} {base : Nat} {spare : Nat → Bool} {held : Bool} {fuel : Nat} {cs : List Value} {x : DataW H × List MemPlace} (h : DataW.trod enc Try.prog w base spare held fuel 45 cs = some x) (hN : Rows.uptoBulk x.1 ≤ 1048576) :
    ∃ (l : List Dt) (A : Option Addr) (c : Nat), cs = [.slice A l.length c] ∧ Rd kDt w A l ∧ DOk l ∧ l.length ≤ c := by
  obtain ⟨l, ⟨A, c, hc, hle, hr⟩, hl, _⟩ := (rdsN_dts dT (Nat.le_refl 1048576)).rd h hN
  exact ⟨l, A, c, hc, hr, hl, hle⟩
end Go.Proofs.Ytgdemplcpcacaaa.RowTy
