/- Packed tables unpacked, by both. -/
import Derived.Test.YtkpehkadammppaaProg
import Derived.Test.YtkpehkadammppaaK08
import Derived.Test.YtkpehkadammppaaK11
set_option linter.unusedVariables false
set_option linter.unusedSimpArgs false
/-! Packed tables unpacked, by both. -/
namespace Go.Proofs.Ytkpehkadammppaa.UnpW
open Go Go.RowKit Go.Proofs.YtkpehkadammppaaFx Go.Proofs.Ytkpehkadammppaa.Look
theorem agg25 : Agg Try.prog 25 2 := agg_of Try.underlying25 (by kernel_rfl)
theorem agg41 : Agg Try.prog 41 9 := agg_of Try.underlying41 (by kernel_rfl)
theorem ba25 : BuildAt Try.prog 25 [.slice none 0 0, .slice none 0 0] [(0, 1), (1, 1)] := build_at Try.underlying25 (by kernel_rfl) (by kernel_rfl)
theorem en23 : Enters Try.prog 23 := enters Try.func23 (by kernel_rfl) rfl
theorem en24 : Enters Try.prog 24 := enters Try.func24 (by kernel_rfl) rfl
theorem en25 : Enters Try.prog 25 := enters Try.func25 (by kernel_rfl) rfl
theorem en26 : Enters Try.prog 26 := enters Try.func26 (by kernel_rfl) rfl
theorem fa25_0 : FieldAt Try.prog 25 0 0 := field_at (sz := 0) Try.underlying25 rfl (by kernel_rfl) rfl
theorem fa25_1 : FieldAt Try.prog 25 1 1 := field_at (sz := 0) Try.underlying25 rfl (by kernel_rfl) rfl
theorem fa41_0 : FieldAt Try.prog 41 0 0 := field_at (sz := 0) Try.underlying41 rfl (by kernel_rfl) rfl
theorem fa41_1 : FieldAt Try.prog 41 1 1 := field_at (sz := 0) Try.underlying41 rfl (by kernel_rfl) rfl
theorem fa41_2 : FieldAt Try.prog 41 2 2 := field_at (sz := 0) Try.underlying41 rfl (by kernel_rfl) rfl
theorem fa41_3 : FieldAt Try.prog 41 3 3 := field_at (sz := 0) Try.underlying41 rfl (by kernel_rfl) rfl
theorem fa41_6 : FieldAt Try.prog 41 6 6 := field_at (sz := 0) Try.underlying41 rfl (by kernel_rfl) rfl
theorem info3 : (Try.prog.info? 3).map (fun i => (i.zero, i.size, i.bytes)) = some (some (.int .i64 0), 1, 8) := by kernel_rfl
theorem info38 : (Try.prog.info? 38).map (fun i => (i.zero, i.size, i.bytes)) = some (some (.slice none 0 0), 1, 24) := by kernel_rfl
theorem info39 : (Try.prog.info? 39).map (fun i => (i.zero, i.size, i.bytes)) = some (some (.slice none 0 0), 1, 24) := by kernel_rfl
theorem info48 : (Try.prog.info? 48).map (fun i => (i.zero, i.size, i.bytes)) = some (some (.agg #[.int .i64 0, .int .i64 0]), 2, 16) := by kernel_rfl
theorem mixed : Try.prog.follows .mixedOrders = true := by kernel_rfl
theorem one22 : One Try.prog 22 := one_of Try.underlying22 rfl (by kernel_rfl)
theorem one23 : One Try.prog 23 := one_of Try.underlying23 rfl (by kernel_rfl)
theorem one3 : One Try.prog 3 := one_of Try.underlying3 rfl (by kernel_rfl)
theorem one38 : One Try.prog 38 := one_of Try.underlying38 rfl (by kernel_rfl)
theorem one39 : One Try.prog 39 := one_of Try.underlying39 rfl (by kernel_rfl)
theorem sz22 : ∀ W, (sizeOf 22).run Try.prog W = .ok 1 W := size_of (by kernel_rfl)
theorem sz23 : ∀ W, (sizeOf 23).run Try.prog W = .ok 1 W := size_of (by kernel_rfl)
theorem sz25 : ∀ W, (sizeOf 25).run Try.prog W = .ok 2 W := size_of (by kernel_rfl)
theorem sz3 : ∀ W, (sizeOf 3).run Try.prog W = .ok 1 W := size_of (by kernel_rfl)
theorem sz38 : ∀ W, (sizeOf 38).run Try.prog W = .ok 1 W := size_of (by kernel_rfl)
theorem sz39 : ∀ W, (sizeOf 39).run Try.prog W = .ok 1 W := size_of (by kernel_rfl)
theorem sz48 : ∀ W, (sizeOf 48).run Try.prog W = .ok 2 W := size_of (by kernel_rfl)
theorem zv25 : ∀ W, (zeroValue 25).run Try.prog W = .ok (.agg #[.slice none 0 0, .slice none 0 0]) W := zero_of (by kernel_rfl)
theorem zv3 : ∀ W, (zeroValue 3).run Try.prog W = .ok (.int .i64 0) W := zero_of (by kernel_rfl)
theorem zv38 : ∀ W, (zeroValue 38).run Try.prog W = .ok (.slice none 0 0) W := zero_of (by kernel_rfl)
theorem zv39 : ∀ W, (zeroValue 39).run Try.prog W = .ok (.slice none 0 0) W := zero_of (by kernel_rfl)
theorem zv48 : ∀ W, (zeroValue 48).run Try.prog W = .ok (.agg #[.int .i64 0, .int .i64 0]) W := zero_of (by kernel_rfl)

set_option maxRecDepth 100000 in
theorem unpack_calls {a : PkA} {p : Pk} {w : World} (hp : p.rd w a) (hk : p.ok) :
    Calls Try.prog 21 #[p.val a] w fun e w' => ∃ v, e = .returned v ∧ ∃ v1 v2, v = .tuple #[.agg #[v1, v2], .int .i64 (upErr p)] ∧ Holds w (OwnT v1 v2 (upAns p)) w' := by
  have q1 := hk.d
  have q2 := hk.b
  have q3 := hk.c
  have q4 := hk.e
  have q5 := hk.gb
  have q6 := hk.gc
  have q7 := hk.ge
  have q8 := hk.ik
  have q9 := hk.ir
  unfold I64 at q8 q9
  refine calls_of Try.func21 rfl Try.ntmps21 rfl ?_
  have H := Holds.start w
  refine wc_seq ?_
  refine wc_region ?_
  refine wl_box (cs := [_, _, _, _, _, _, _, _, _]) H rfl rfl rfl ?_
  intro b1 w1 hb1 H2
  refine wl_alloc (cs := [.slice none 0 0, .slice none 0 0]) H2 rfl zv25 rfl ?_
  intro b2 w3 hb2 H4
  refine wl_v rfl rfl rfl (v_assign rfl) ?_
  refine wl_nil ?_
  refine wc_seq ?_
  refine wc_region ?_
  refine wl_v rfl rfl rfl (v_fb (o2 := 2) fa41_2 rfl rfl) ?_
  refine wl_v rfl rfl rfl (v_load one38 rfl (H4.at (by repeat constructor) rfl)) ?_
  refine wl_v rfl rfl rfl (v_len Try.underlying38 rfl) ?_
  refine wl_v rfl rfl rfl (v_assign rfl) ?_
  refine wl_nil ?_
  refine wc_seq ?_
  refine wc_seq ?_
  refine wc_region ?_
  refine wl_v rfl rfl rfl (v_move rfl) ?_
  refine wl_v rfl rfl rfl (v_eql rfl rfl) ?_
  refine wl_v rfl rfl rfl (v_move rfl) ?_
  refine wl_guard rfl rfl rfl (fun g16 => ?_) (fun g16 => ?_)
  · have g16p := of_decide_eq_false g16
    refine wl_v rfl rfl rfl (v_move rfl) ?_
    refine wl_on' rfl rfl g16 ?_
    refine wl_v rfl rfl rfl (v_gtr rfl rfl) ?_
    refine wl_v rfl rfl rfl (v_pick_f rfl g16 rfl) ?_
    refine wl_v rfl rfl rfl (v_move rfl) ?_
    refine wl_guard rfl rfl rfl (fun g20 => ?_) (fun g20 => ?_)
    · have g20p := of_decide_eq_false g20
      refine wl_v rfl rfl rfl (v_fb (o2 := 0) fa41_0 rfl rfl) ?_
      refine wl_on' rfl rfl g20 ?_
      refine wl_v rfl rfl rfl (v_load one3 rfl (H4.at (by repeat constructor) rfl)) ?_
      refine wl_on' rfl rfl g20 ?_
      refine wl_v rfl rfl rfl (v_lss rfl rfl) ?_
      refine wl_v rfl rfl rfl (v_pick_f rfl g20 rfl) ?_
      refine wl_v rfl rfl rfl (v_move rfl) ?_
      refine wl_guard rfl rfl rfl (fun g25 => ?_) (fun g25 => ?_)
      · have g25p := of_decide_eq_false g25
        refine wl_v rfl rfl rfl (v_fb (o2 := 0) fa41_0 rfl rfl) ?_
        refine wl_on' rfl rfl g25 ?_
        refine wl_v rfl rfl rfl (v_load one3 rfl (H4.at (by repeat constructor) rfl)) ?_
        refine wl_on' rfl rfl g25 ?_
        refine wl_v rfl rfl rfl (v_gtr rfl rfl) ?_
        refine wl_v rfl rfl rfl (v_pick_f rfl g25 rfl) ?_
        refine wl_v rfl rfl rfl (v_move rfl) ?_
        refine wl_guard rfl rfl rfl (fun g30 => ?_) (fun g30 => ?_)
        · have g30p := of_decide_eq_false g30
          refine wl_v rfl rfl rfl (v_fb (o2 := 1) fa41_1 rfl rfl) ?_
          refine wl_on' rfl rfl g30 ?_
          refine wl_v rfl rfl rfl (v_load one3 rfl (H4.at (by repeat constructor) rfl)) ?_
          refine wl_on' rfl rfl g30 ?_
          refine wl_v rfl rfl rfl (v_lss rfl rfl) ?_
          refine wl_v rfl rfl rfl (v_pick_f rfl g30 rfl) ?_
          refine wl_v rfl rfl rfl (v_move rfl) ?_
          refine wl_guard rfl rfl rfl (fun g35 => ?_) (fun g35 => ?_)
          · have g35p := of_decide_eq_false g35
            refine wl_v rfl rfl rfl (v_fb (o2 := 1) fa41_1 rfl rfl) ?_
            refine wl_on' rfl rfl g35 ?_
            refine wl_v rfl rfl rfl (v_load one3 rfl (H4.at (by repeat constructor) rfl)) ?_
            refine wl_on' rfl rfl g35 ?_
            refine wl_v rfl rfl rfl (v_gtr rfl rfl) ?_
            refine wl_v rfl rfl rfl (v_pick_f rfl g35 rfl) ?_
            refine wl_v rfl rfl rfl (v_move rfl) ?_
            refine wl_guard rfl rfl rfl (fun g40 => ?_) (fun g40 => ?_)
            · have g40p := of_decide_eq_false g40
              refine wl_v rfl rfl rfl (v_fb (o2 := 3) fa41_3 rfl rfl) ?_
              refine wl_on' rfl rfl g40 ?_
              refine wl_v rfl rfl rfl (v_load one39 rfl (H4.at (by repeat constructor) rfl)) ?_
              refine wl_on' rfl rfl g40 ?_
              refine wl_v rfl rfl rfl (v_len Try.underlying39 rfl) ?_
              refine wl_on' rfl rfl g40 ?_
              refine wl_v rfl rfl rfl (v_move rfl) ?_
              refine wl_on' rfl rfl g40 ?_
              refine wl_v rfl rfl rfl (v_neq rfl rfl) ?_
              refine wl_v rfl rfl rfl (v_pick_f rfl g40 rfl) ?_
              refine wl_v rfl rfl rfl (v_move rfl) ?_
              refine wl_guard rfl rfl rfl (fun g47 => ?_) (fun g47 => ?_)
              · have g47p := of_nd_f g47
                refine wl_v rfl rfl rfl (v_fb (o2 := 6) fa41_6 rfl rfl) ?_
                refine wl_on' rfl rfl g47 ?_
                refine wl_v rfl rfl rfl (v_load one39 rfl (H4.at (by repeat constructor) rfl)) ?_
                refine wl_on' rfl rfl g47 ?_
                refine wl_v rfl rfl rfl (v_len Try.underlying39 rfl) ?_
                refine wl_on' rfl rfl g47 ?_
                refine wl_v rfl rfl rfl (v_move rfl) ?_
                refine wl_on' rfl rfl g47 ?_
                refine wl_v rfl rfl rfl (v_neq rfl rfl) ?_
                refine wl_v rfl rfl rfl (v_pick_f rfl g47 rfl) ?_
                refine wl_nil ?_
                refine wc_cond rfl (fun c0 => ?_) (fun c0 => ?_)
                · have c0p := of_nd_t c0
                  refine wc_seq ?_
                  refine wc_region ?_
                  refine wl_v rfl rfl rfl (v_bld ba25 rfl (by repeat constructor)) ?_
                  refine wl_store (vs := [_, _]) H4 (by repeat constructor) sz25 rfl rfl rfl rfl rfl (by repeat constructor) ?_
                  intro w5 H6 hw5
                  refine wl_v rfl rfl rfl (v_assign rfl) ?_
                  refine wl_nil ?_
                  refine wc_ret ?_
                  first
                    | (have hu : UpOk p := ⟨by omega, by omega, by omega, by omega, by omega, by omega, by omega, by omega⟩
                       exact ⟨_, resc2 rfl rfl (run_loadVarN agg25 rfl (H6.ats (by repeat constructor))) rfl, _, _, by rw [(up_t hu).2], by rw [(up_t hu).1]; exact H6.pm (by repeat constructor)⟩)
                    | (have hu : ¬ UpOk p := fun hu => by obtain ⟨u1, u2, u3, u4, u5, u6, u7, u8⟩ := hu; omega
                       exact ⟨_, resc2 rfl rfl (run_loadVarN agg25 rfl (H6.ats (by repeat constructor))) rfl, _, _, by rw [(up_f hu).2], by rw [(up_f hu).1]; exact ((H6.rrNil fMv 38 48).rrNil (fInt .i64) 39 3).pm (by repeat constructor)⟩)
                · have c0p := of_nd_f c0
                  refine wc_skip ?_
                  refine wc_seq ?_
                  refine wc_region ?_
                  refine wl_v rfl rfl rfl (v_bld ba25 rfl (by repeat constructor)) ?_
                  refine wl_alloc (cs := [.slice none 0 0, .slice none 0 0]) H4 rfl zv25 rfl ?_
                  intro b5 w7 hb5 H8
                  refine wl_store (vs := [_, _]) H8 (by repeat constructor) sz25 rfl rfl rfl rfl rfl (by repeat constructor) ?_
                  intro w9 H10 hw9
                  refine wl_nil ?_
                  refine wc_seq ?_
                  refine wc_seq ?_
                  refine wc_region ?_
                  refine wl_v rfl rfl rfl (v_fb (o2 := 2) fa41_2 rfl rfl) ?_
                  refine wl_v rfl rfl rfl (v_load one38 rfl (H10.at (by repeat constructor) rfl)) ?_
                  refine wl_v rfl rfl rfl (v_len Try.underlying38 rfl) ?_
                  refine wl_v rfl rfl rfl (v_move rfl) ?_
                  refine wl_nil ?_
                  refine wc_block ?_
                  refine wc_loop (σ := Nat) (fun s => [(1, .pointer (some ⟨b1, 0, none⟩)), (2, .pointer (some ⟨b2, 0, none⟩)), (4, .int .i64 p.dflt.length), (5, .pointer (some ⟨b5, 0, none⟩)), (57, .slice a.d p.dflt.length a.kd), (58, .int .i64 p.dflt.length), (59, .int .i64 s)]) (fun s W => s ≤ p.dflt.length ∧ ∃ v1 v2, Holds w [RR fMv 38 48 v1 (mvs p s), RR (fInt .i64) 39 3 v2 (gos p s), Blk b5 25 [v1, v2], Blk b2 25 [.slice none 0 0, .slice none 0 0], Blk b1 41 [.int .i64 p.kinds, .int .i64 p.rules, .slice a.d p.dflt.length a.kd, .slice a.b p.base.length a.kb, .slice a.c p.check.length a.kc, .slice a.e p.cell.length a.ke, .slice a.gb p.gbase.length a.kgb, .slice a.gc p.gcheck.length a.kgc, .slice a.ge p.gcell.length a.kge]] W) (fun s => p.dflt.length - s) 0 (sc rfl (sc rfl (sc rfl (sc rfl (sc rfl (sc rfl (sc rfl (sn _)))))))) ⟨Nat.zero_le _, _, _, ((H10.rrNil fMv 38 48).rrNil (fInt .i64) 39 3).pm (by repeat constructor)⟩ ?_
                  rintro i W0 ⟨hi, v1, v2, H⟩
                  refine wc_seq ?_
                  refine wc_region ?_
                  refine wl_v rfl rfl rfl (v_lss rfl rfl) ?_
                  refine wl_nil ?_
                  refine wc_seq ?_
                  refine wc_cond rfl (fun c1 => ?_) (fun c1 => ?_)
                  · have c1p := of_decide_eq_true c1
                    refine wc_skip ?_
                    refine wc_seq ?_
                    refine wc_block ?_
                    refine wc_seq ?_
                    refine wc_region ?_
                    refine wl_v rfl rfl rfl (v_move rfl) ?_
                    refine wl_v rfl rfl rfl (v_assign rfl) ?_
                    refine wl_nil ?_
                    refine wc_seq ?_
                    refine wc_region ?_
                    refine wl_v rfl rfl rfl (v_fb (o2 := 0) fa41_0 rfl rfl) ?_
                    refine wl_v rfl rfl rfl (v_load one3 rfl (H.at (by repeat constructor) rfl)) ?_
                    refine wl_make (f := fMv) (z' := mv0) H rfl Try.underlying38 info48 rfl (by decide) rfl rfl (by omega) (by omega) (by decide) ?_
                    intro A7 w11 H11 hs11
                    refine wl_v rfl rfl rfl (v_assign rfl) ?_
                    refine wl_nil ?_
                    refine wc_seq ?_
                    refine wc_seq ?_
                    refine wc_region ?_
                    refine wl_v rfl rfl rfl (v_move rfl) ?_
                    refine wl_v rfl rfl rfl (v_len Try.underlying38 rfl) ?_
                    refine wl_v rfl rfl rfl (v_move rfl) ?_
                    refine wl_nil ?_
                    refine wc_block ?_
                    refine wc_loop (σ := Nat) (fun s => [(1, .pointer (some ⟨b1, 0, none⟩)), (2, .pointer (some ⟨b2, 0, none⟩)), (4, .int .i64 p.dflt.length), (5, .pointer (some ⟨b5, 0, none⟩)), (6, .int .i64 i), (7, .slice A7 p.kinds.toNat p.kinds.toNat), (57, .slice a.d p.dflt.length a.kd), (58, .int .i64 p.dflt.length), (59, .int .i64 i), (65, .slice A7 p.kinds.toNat p.kinds.toNat), (66, .int .i64 p.kinds.toNat), (67, .int .i64 s)]) (fun s W => s ≤ p.kinds.toNat ∧ Holds w [Row fMv 48 (.slice A7 p.kinds.toNat p.kinds.toNat) (mvFill p i s), RR fMv 38 48 v1 (mvs p i), RR (fInt .i64) 39 3 v2 (gos p i), Blk b5 25 [v1, v2], Blk b2 25 [.slice none 0 0, .slice none 0 0], Blk b1 41 [.int .i64 p.kinds, .int .i64 p.rules, .slice a.d p.dflt.length a.kd, .slice a.b p.base.length a.kb, .slice a.c p.check.length a.kc, .slice a.e p.cell.length a.ke, .slice a.gb p.gbase.length a.kgb, .slice a.gc p.gcheck.length a.kgc, .slice a.ge p.gcell.length a.kge]] W) (fun s => p.kinds.toNat - s) 0 (sc rfl (sc rfl (sc rfl (sc rfl (sc rfl (sc rfl (sc rfl (sc rfl (sc rfl (sc rfl (sc rfl (sc rfl (sn _))))))))))))) ⟨Nat.zero_le _, by rw [mvFill_zero]; exact H11.pm (by repeat constructor)⟩ ?_
                    rintro j W1 ⟨hj, H⟩
                    refine wc_seq ?_
                    refine wc_region ?_
                    refine wl_v rfl rfl rfl (v_lss rfl rfl) ?_
                    refine wl_nil ?_
                    refine wc_seq ?_
                    refine wc_cond rfl (fun c2 => ?_) (fun c2 => ?_)
                    · have c2p := of_decide_eq_true c2
                      have hfl := mvFill_len (s := i) hj
                      have hrow := H.rrd (f := fMv) (e := 48) (A := A7) (xs := mvFill p i j) (by repeat constructor)
                      have hrad : 0 < p.kinds.toNat → A7 = some (adr A7) := fun h => hrow.ad (by omega)
                      refine wc_skip ?_
                      refine wc_seq ?_
                      refine wc_block ?_
                      refine wc_seq ?_
                      refine wc_region ?_
                      refine wl_v rfl rfl rfl (v_move rfl) ?_
                      refine wl_v rfl rfl rfl (v_assign rfl) ?_
                      refine wl_nil ?_
                      refine wc_region ?_
                      refine wl_v rfl rfl rfl (v_move rfl) ?_
                      refine wl_v rfl rfl rfl (v_move rfl) ?_
                      refine wl_v rfl rfl rfl (v_loadN agg41 rfl rfl (H.ats (by repeat constructor))) ?_
                      refine wl_v rfl rfl rfl (v_move rfl) ?_
                      refine wl_v rfl rfl rfl (v_move rfl) ?_
                      refine wl_call en23 rfl rfl (move2_calls (hp.below H.old) hk (by unfold I64; omega) (by unfold I64; omega)) ?_
                      rintro _ w12 ⟨rfl, Hc⟩
                      have H13 := H.call Hc
                      refine wl_v rfl rfl rfl (v_idx Try.underlying38 sz48 hrad rfl rfl (by omega) (by omega)) ?_
                      refine wl_storeR (f := fMv) (xs := mvFill p i j) (i := (j : Int)) (x' := lookMv p i j) H13 (by repeat constructor) sz48 rfl rfl rfl (by omega) (by omega) ?_
                      intro w14 H14
                      refine wl_nil ?_
                      refine wc_region ?_
                      refine wl_v rfl rfl rfl (v_addi rfl rfl (by omega)) ?_
                      refine wl_v rfl rfl rfl (v_move rfl) ?_
                      refine wl_nil ?_
                      exact ⟨j + 1, (sc rfl (sc rfl (sc rfl (sc rfl (sc rfl (sc rfl (sc rfl (sc rfl (sc rfl (sc rfl (sc rfl (sc rfl (sn _))))))))))))), ⟨by omega, by rw [mvFill_next (by omega)]; exact H14.pm (by repeat constructor)⟩, by omega⟩
                    · have c2p := of_decide_eq_false c2
                      have hje : j = p.kinds.toNat := by omega
                      subst hje
                      rw [mvFill_all] at H
                      refine wc_exit ?_
                      refine wc_seq ?_
                      refine wc_region ?_
                      refine wl_v rfl rfl rfl (v_fb (o2 := 1) fa41_1 rfl rfl) ?_
                      refine wl_v rfl rfl rfl (v_load one3 rfl (H.at (by repeat constructor) rfl)) ?_
                      refine wl_make (f := fInt .i64) (z' := 0) H rfl Try.underlying39 info3 rfl (by decide) rfl rfl (by omega) (by omega) (by decide) ?_
                      intro A8 w15 H15 hs15
                      refine wl_v rfl rfl rfl (v_assign rfl) ?_
                      refine wl_nil ?_
                      refine wc_seq ?_
                      refine wc_seq ?_
                      refine wc_region ?_
                      refine wl_v rfl rfl rfl (v_move rfl) ?_
                      refine wl_v rfl rfl rfl (v_len Try.underlying39 rfl) ?_
                      refine wl_v rfl rfl rfl (v_move rfl) ?_
                      refine wl_nil ?_
                      refine wc_block ?_
                      refine wc_loop (σ := Nat) (fun s => [(1, .pointer (some ⟨b1, 0, none⟩)), (2, .pointer (some ⟨b2, 0, none⟩)), (4, .int .i64 p.dflt.length), (5, .pointer (some ⟨b5, 0, none⟩)), (6, .int .i64 i), (7, .slice A7 p.kinds.toNat p.kinds.toNat), (9, .slice A8 p.rules.toNat p.rules.toNat), (57, .slice a.d p.dflt.length a.kd), (58, .int .i64 p.dflt.length), (59, .int .i64 i), (81, .slice A8 p.rules.toNat p.rules.toNat), (82, .int .i64 p.rules.toNat), (83, .int .i64 s)]) (fun s W => s ≤ p.rules.toNat ∧ Holds w [Row (fInt .i64) 3 (.slice A8 p.rules.toNat p.rules.toNat) (goFill p i s), Row fMv 48 (.slice A7 p.kinds.toNat p.kinds.toNat) (mvRow p i p.kinds.toNat), RR fMv 38 48 v1 (mvs p i), RR (fInt .i64) 39 3 v2 (gos p i), Blk b5 25 [v1, v2], Blk b2 25 [.slice none 0 0, .slice none 0 0], Blk b1 41 [.int .i64 p.kinds, .int .i64 p.rules, .slice a.d p.dflt.length a.kd, .slice a.b p.base.length a.kb, .slice a.c p.check.length a.kc, .slice a.e p.cell.length a.ke, .slice a.gb p.gbase.length a.kgb, .slice a.gc p.gcheck.length a.kgc, .slice a.ge p.gcell.length a.kge]] W) (fun s => p.rules.toNat - s) 0 (sc rfl (sc rfl (sc rfl (sc rfl (sc rfl (sc rfl (sc rfl (sc rfl (sc rfl (sc rfl (sc rfl (sc rfl (sc rfl (sn _)))))))))))))) ⟨Nat.zero_le _, by rw [goFill_zero]; exact H15.pm (by repeat constructor)⟩ ?_
                      rintro j W2 ⟨hj, H⟩
                      refine wc_seq ?_
                      refine wc_region ?_
                      refine wl_v rfl rfl rfl (v_lss rfl rfl) ?_
                      refine wl_nil ?_
                      refine wc_seq ?_
                      refine wc_cond rfl (fun c3 => ?_) (fun c3 => ?_)
                      · have c3p := of_decide_eq_true c3
                        have hfl := goFill_len (s := i) hj
                        have hrow := H.rrd (f := fInt .i64) (e := 3) (A := A8) (xs := goFill p i j) (by repeat constructor)
                        have hrad : 0 < p.rules.toNat → A8 = some (adr A8) := fun h => hrow.ad (by omega)
                        refine wc_skip ?_
                        refine wc_seq ?_
                        refine wc_block ?_
                        refine wc_seq ?_
                        refine wc_region ?_
                        refine wl_v rfl rfl rfl (v_move rfl) ?_
                        refine wl_v rfl rfl rfl (v_assign rfl) ?_
                        refine wl_nil ?_
                        refine wc_region ?_
                        refine wl_v rfl rfl rfl (v_move rfl) ?_
                        refine wl_v rfl rfl rfl (v_move rfl) ?_
                        refine wl_v rfl rfl rfl (v_loadN agg41 rfl rfl (H.ats (by repeat constructor))) ?_
                        refine wl_v rfl rfl rfl (v_move rfl) ?_
                        refine wl_v rfl rfl rfl (v_move rfl) ?_
                        refine wl_call en25 rfl rfl (goto_calls (hp.below H.old) hk (by unfold I64; omega) (by unfold I64; omega)) ?_
                        rintro _ w16 ⟨rfl, Hc⟩
                        have H17 := H.call Hc
                        refine wl_v rfl rfl rfl (v_idx Try.underlying39 sz3 hrad rfl rfl (by omega) (by omega)) ?_
                        refine wl_storeR (f := fInt .i64) (xs := goFill p i j) (i := (j : Int)) (x' := lookGo p i j) H17 (by repeat constructor) sz3 rfl rfl rfl (by omega) (by omega) ?_
                        intro w18 H18
                        refine wl_nil ?_
                        refine wc_region ?_
                        refine wl_v rfl rfl rfl (v_addi rfl rfl (by omega)) ?_
                        refine wl_v rfl rfl rfl (v_move rfl) ?_
                        refine wl_nil ?_
                        exact ⟨j + 1, (sc rfl (sc rfl (sc rfl (sc rfl (sc rfl (sc rfl (sc rfl (sc rfl (sc rfl (sc rfl (sc rfl (sc rfl (sc rfl (sn _)))))))))))))), ⟨by omega, by rw [goFill_next (by omega)]; exact H18.pm (by repeat constructor)⟩, by omega⟩
                      · have c3p := of_decide_eq_false c3
                        have hje : j = p.rules.toNat := by omega
                        subst hje
                        rw [goFill_all] at H
                        refine wc_exit ?_
                        refine wc_tree [0, 1, 2, 5, 6, 7, 10] (fun W => Holds w [Blk b5 25 [v1, v2], Blk b2 25 [.slice none 0 0, .slice none 0 0], Blk b1 41 [.int .i64 p.kinds, .int .i64 p.rules, .slice a.d p.dflt.length a.kd, .slice a.b p.base.length a.kb, .slice a.c p.check.length a.kc, .slice a.e p.cell.length a.ke, .slice a.gb p.gbase.length a.kgb, .slice a.gc p.gcheck.length a.kgc, .slice a.ge p.gcell.length a.kge]] W) mixed ?_
                        have Hd := H.drew
                        have HSd : Holds w [Blk b5 25 [v1, v2], Blk b2 25 [.slice none 0 0, .slice none 0 0], Blk b1 41 [.int .i64 p.kinds, .int .i64 p.rules, .slice a.d p.dflt.length a.kd, .slice a.b p.base.length a.kb, .slice a.c p.check.length a.kc, .slice a.e p.cell.length a.ke, .slice a.gb p.gbase.length a.kgb, .slice a.gc p.gcheck.length a.kgc, .slice a.ge p.gcell.length a.kge]] _ := Hd.pm (by repeat constructor)
                        refine wj_v (k := 0) rfl (by kernel_rfl) (fun _ _ _ h => h) HSd rfl rfl rfl (fun W HW => v_fb (o2 := 0) fa25_0 rfl rfl) ?_
                        refine wj_v (k := 1) rfl (by kernel_rfl) (fun _ _ _ h => h) HSd rfl rfl rfl (fun W HW => v_load one22 rfl (HW.at (by repeat constructor) rfl)) ?_
                        refine wj_v (k := 2) rfl (by kernel_rfl) (fun _ _ _ h => h) HSd rfl rfl rfl (fun W HW => v_move rfl) ?_
                        refine wj_v (k := 5) rfl (by kernel_rfl) (fun _ _ _ h => h) HSd rfl rfl rfl (fun W HW => v_fb (o2 := 1) fa25_1 rfl rfl) ?_
                        refine wj_v (k := 6) rfl (by kernel_rfl) (fun _ _ _ h => h) HSd rfl rfl rfl (fun W HW => v_load one23 rfl (HW.at (by repeat constructor) rfl)) ?_
                        refine wj_v (k := 7) rfl (by kernel_rfl) (fun _ _ _ h => h) HSd rfl rfl rfl (fun W HW => v_move rfl) ?_
                        refine wj_2 (k := 3) (k2 := 8) rfl rfl (by kernel_rfl) ?_ ?_
                        · refine wl_slit (v := .slice none 0 0) (z := [.slice none 0 0]) (cs := [.slice A7 p.kinds.toNat p.kinds.toNat]) (sz := 1) Hd rfl Try.underlying22 sz38 zv38 (by decide) (by decide) (by kernel_rfl) rfl (by repeat constructor) ?_
                          intro b97 w19 hb97 H19 hs19
                          have HS20 : Holds w [Blk b5 25 [v1, v2], Blk b2 25 [.slice none 0 0, .slice none 0 0], Blk b1 41 [.int .i64 p.kinds, .int .i64 p.rules, .slice a.d p.dflt.length a.kd, .slice a.b p.base.length a.kb, .slice a.c p.check.length a.kc, .slice a.e p.cell.length a.ke, .slice a.gb p.gbase.length a.kgb, .slice a.gc p.gcheck.length a.kgc, .slice a.ge p.gcell.length a.kge]] _ := H19.pm (by repeat constructor)
                          refine wl_nil (tn ⟨fun _ => HS20, ?_⟩)
                          refine wj_2 (k := 4) (k2 := 8) rfl rfl (by kernel_rfl) ?_ ?_
                          · refine wl_appRR (f := fMv) (e := 38) (e2 := 48) (v := v1) (u := .slice A7 p.kinds.toNat p.kinds.toNat) (xs := mvRow p i p.kinds.toNat) (xss := mvs p i) H19 (by repeat constructor) (by repeat constructor) (H19.at (by repeat constructor) rfl) rfl Try.underlying22 info38 rfl rfl rfl (by rw [mvs_len]; omega) (by decide) ?_
                            intro A98 c98 w21 H21 hs21
                            have HS22 : Holds w [Blk b5 25 [v1, v2], Blk b2 25 [.slice none 0 0, .slice none 0 0], Blk b1 41 [.int .i64 p.kinds, .int .i64 p.rules, .slice a.d p.dflt.length a.kd, .slice a.b p.base.length a.kb, .slice a.c p.check.length a.kc, .slice a.e p.cell.length a.ke, .slice a.gb p.gbase.length a.kgb, .slice a.gc p.gcheck.length a.kgc, .slice a.ge p.gcell.length a.kge]] _ := H21.pm (by repeat constructor)
                            refine wl_nil (tn ⟨fun _ => HS22, ?_⟩)
                            refine wj_v (k := 10) rfl (by kernel_rfl) (fun _ _ _ h => h) HS22 rfl rfl rfl (fun W HW => v_fb (o2 := 0) fa25_0 rfl rfl) ?_
                            refine wj_t (k := 8) rfl (by kernel_rfl) ?_
                            refine wl_slit (v := .slice none 0 0) (z := [.slice none 0 0]) (cs := [.slice A8 p.rules.toNat p.rules.toNat]) (sz := 1) H21 rfl Try.underlying23 sz39 zv39 (by decide) (by decide) (by kernel_rfl) rfl (by repeat constructor) ?_
                            intro b102 w23 hb102 H23 hs23
                            have HS24 : Holds w [Blk b5 25 [v1, v2], Blk b2 25 [.slice none 0 0, .slice none 0 0], Blk b1 41 [.int .i64 p.kinds, .int .i64 p.rules, .slice a.d p.dflt.length a.kd, .slice a.b p.base.length a.kb, .slice a.c p.check.length a.kc, .slice a.e p.cell.length a.ke, .slice a.gb p.gbase.length a.kgb, .slice a.gc p.gcheck.length a.kgc, .slice a.ge p.gcell.length a.kge]] _ := H23.pm (by repeat constructor)
                            refine wl_nil (tn ⟨fun _ => HS24, ?_⟩)
                            refine wj_t (k := 9) rfl (by kernel_rfl) ?_
                            refine wl_appRR (f := fInt .i64) (e := 39) (e2 := 3) (v := v2) (u := .slice A8 p.rules.toNat p.rules.toNat) (xs := goRw p i p.rules.toNat) (xss := gos p i) H23 (by repeat constructor) (by repeat constructor) (H23.at (by repeat constructor) rfl) rfl Try.underlying23 info39 rfl rfl rfl (by rw [gos_len]; omega) (by decide) ?_
                            intro A103 c103 w25 H25 hs25
                            have HS26 : Holds w [Blk b5 25 [v1, v2], Blk b2 25 [.slice none 0 0, .slice none 0 0], Blk b1 41 [.int .i64 p.kinds, .int .i64 p.rules, .slice a.d p.dflt.length a.kd, .slice a.b p.base.length a.kb, .slice a.c p.check.length a.kc, .slice a.e p.cell.length a.ke, .slice a.gb p.gbase.length a.kgb, .slice a.gc p.gcheck.length a.kgc, .slice a.ge p.gcell.length a.kge]] _ := H25.pm (by repeat constructor)
                            refine wl_nil (tn ⟨fun _ => HS26, ?_⟩)
                            refine wj_t (k := 11) rfl (by kernel_rfl) ?_
                            refine wl_store (vs := [_]) H25 (by repeat constructor) sz22 rfl rfl rfl rfl rfl (by repeat constructor) ?_
                            intro w27 H28 hw27
                            refine wl_nil (tn ⟨fun hlt => absurd hlt (by rw [show allH _ _ _ = true by kernel_rfl]; simp), ?_⟩)
                            refine wj_t (k := 12) rfl (by kernel_rfl) ?_
                            refine wl_v rfl rfl rfl (v_fb (o2 := 1) fa25_1 rfl rfl) ?_
                            refine wl_nil (tn ⟨fun hlt => absurd hlt (by rw [show allH _ _ _ = true by kernel_rfl]; simp), ?_⟩)
                            refine wj_t (k := 13) rfl (by kernel_rfl) ?_
                            refine wl_store (vs := [_]) H28 (by repeat constructor) sz23 rfl rfl rfl rfl rfl (by repeat constructor) ?_
                            intro w31 H32 hw31
                            refine wl_nil (tn ⟨fun hlt => absurd hlt (by rw [show allH _ _ _ = true by kernel_rfl]; simp), ?_⟩)
                            refine wj_done (by kernel_rfl) ?_
                            refine wc_region ?_
                            refine wl_v rfl rfl rfl (v_addi rfl rfl (by omega)) ?_
                            refine wl_v rfl rfl rfl (v_move rfl) ?_
                            refine wl_nil ?_
                            rw [← mvs_succ, ← gos_succ] at H32
                            exact ⟨i + 1, (sc rfl (sc rfl (sc rfl (sc rfl (sc rfl (sc rfl (sc rfl (sn _)))))))), ⟨by omega, _, _, H32.pm (by repeat constructor)⟩, by omega⟩
                          · refine wl_slit (v := .slice none 0 0) (z := [.slice none 0 0]) (cs := [.slice A8 p.rules.toNat p.rules.toNat]) (sz := 1) H19 rfl Try.underlying23 sz39 zv39 (by decide) (by decide) (by kernel_rfl) rfl (by repeat constructor) ?_
                            intro b102 w34 hb102 H34 hs34
                            have HS35 : Holds w [Blk b5 25 [v1, v2], Blk b2 25 [.slice none 0 0, .slice none 0 0], Blk b1 41 [.int .i64 p.kinds, .int .i64 p.rules, .slice a.d p.dflt.length a.kd, .slice a.b p.base.length a.kb, .slice a.c p.check.length a.kc, .slice a.e p.cell.length a.ke, .slice a.gb p.gbase.length a.kgb, .slice a.gc p.gcheck.length a.kgc, .slice a.ge p.gcell.length a.kge]] _ := H34.pm (by repeat constructor)
                            refine wl_nil (tn ⟨fun _ => HS35, ?_⟩)
                            refine wj_t (k := 4) rfl (by kernel_rfl) ?_
                            refine wl_appRR (f := fMv) (e := 38) (e2 := 48) (v := v1) (u := .slice A7 p.kinds.toNat p.kinds.toNat) (xs := mvRow p i p.kinds.toNat) (xss := mvs p i) H34 (by repeat constructor) (by repeat constructor) (H34.at (by repeat constructor) rfl) rfl Try.underlying22 info38 rfl rfl rfl (by rw [mvs_len]; omega) (by decide) ?_
                            intro A98 c98 w36 H36 hs36
                            have HS37 : Holds w [Blk b5 25 [v1, v2], Blk b2 25 [.slice none 0 0, .slice none 0 0], Blk b1 41 [.int .i64 p.kinds, .int .i64 p.rules, .slice a.d p.dflt.length a.kd, .slice a.b p.base.length a.kb, .slice a.c p.check.length a.kc, .slice a.e p.cell.length a.ke, .slice a.gb p.gbase.length a.kgb, .slice a.gc p.gcheck.length a.kgc, .slice a.ge p.gcell.length a.kge]] _ := H36.pm (by repeat constructor)
                            refine wl_nil (tn ⟨fun _ => HS37, ?_⟩)
                            refine wj_v (k := 10) rfl (by kernel_rfl) (fun _ _ _ h => h) HS37 rfl rfl rfl (fun W HW => v_fb (o2 := 0) fa25_0 rfl rfl) ?_
                            refine wj_t (k := 9) rfl (by kernel_rfl) ?_
                            refine wl_appRR (f := fInt .i64) (e := 39) (e2 := 3) (v := v2) (u := .slice A8 p.rules.toNat p.rules.toNat) (xs := goRw p i p.rules.toNat) (xss := gos p i) H36 (by repeat constructor) (by repeat constructor) (H36.at (by repeat constructor) rfl) rfl Try.underlying23 info39 rfl rfl rfl (by rw [gos_len]; omega) (by decide) ?_
                            intro A103 c103 w38 H38 hs38
                            have HS39 : Holds w [Blk b5 25 [v1, v2], Blk b2 25 [.slice none 0 0, .slice none 0 0], Blk b1 41 [.int .i64 p.kinds, .int .i64 p.rules, .slice a.d p.dflt.length a.kd, .slice a.b p.base.length a.kb, .slice a.c p.check.length a.kc, .slice a.e p.cell.length a.ke, .slice a.gb p.gbase.length a.kgb, .slice a.gc p.gcheck.length a.kgc, .slice a.ge p.gcell.length a.kge]] _ := H38.pm (by repeat constructor)
                            refine wl_nil (tn ⟨fun _ => HS39, ?_⟩)
                            refine wj_t (k := 11) rfl (by kernel_rfl) ?_
                            refine wl_store (vs := [_]) H38 (by repeat constructor) sz22 rfl rfl rfl rfl rfl (by repeat constructor) ?_
                            intro w40 H41 hw40
                            refine wl_nil (tn ⟨fun hlt => absurd hlt (by rw [show allH _ _ _ = true by kernel_rfl]; simp), ?_⟩)
                            refine wj_t (k := 12) rfl (by kernel_rfl) ?_
                            refine wl_v rfl rfl rfl (v_fb (o2 := 1) fa25_1 rfl rfl) ?_
                            refine wl_nil (tn ⟨fun hlt => absurd hlt (by rw [show allH _ _ _ = true by kernel_rfl]; simp), ?_⟩)
                            refine wj_t (k := 13) rfl (by kernel_rfl) ?_
                            refine wl_store (vs := [_]) H41 (by repeat constructor) sz23 rfl rfl rfl rfl rfl (by repeat constructor) ?_
                            intro w44 H45 hw44
                            refine wl_nil (tn ⟨fun hlt => absurd hlt (by rw [show allH _ _ _ = true by kernel_rfl]; simp), ?_⟩)
                            refine wj_done (by kernel_rfl) ?_
                            refine wc_region ?_
                            refine wl_v rfl rfl rfl (v_addi rfl rfl (by omega)) ?_
                            refine wl_v rfl rfl rfl (v_move rfl) ?_
                            refine wl_nil ?_
                            rw [← mvs_succ, ← gos_succ] at H45
                            exact ⟨i + 1, (sc rfl (sc rfl (sc rfl (sc rfl (sc rfl (sc rfl (sc rfl (sn _)))))))), ⟨by omega, _, _, H45.pm (by repeat constructor)⟩, by omega⟩
                        · refine wl_slit (v := .slice none 0 0) (z := [.slice none 0 0]) (cs := [.slice A8 p.rules.toNat p.rules.toNat]) (sz := 1) Hd rfl Try.underlying23 sz39 zv39 (by decide) (by decide) (by kernel_rfl) rfl (by repeat constructor) ?_
                          intro b102 w47 hb102 H47 hs47
                          have HS48 : Holds w [Blk b5 25 [v1, v2], Blk b2 25 [.slice none 0 0, .slice none 0 0], Blk b1 41 [.int .i64 p.kinds, .int .i64 p.rules, .slice a.d p.dflt.length a.kd, .slice a.b p.base.length a.kb, .slice a.c p.check.length a.kc, .slice a.e p.cell.length a.ke, .slice a.gb p.gbase.length a.kgb, .slice a.gc p.gcheck.length a.kgc, .slice a.ge p.gcell.length a.kge]] _ := H47.pm (by repeat constructor)
                          refine wl_nil (tn ⟨fun _ => HS48, ?_⟩)
                          refine wj_t (k := 3) rfl (by kernel_rfl) ?_
                          refine wl_slit (v := .slice none 0 0) (z := [.slice none 0 0]) (cs := [.slice A7 p.kinds.toNat p.kinds.toNat]) (sz := 1) H47 rfl Try.underlying22 sz38 zv38 (by decide) (by decide) (by kernel_rfl) rfl (by repeat constructor) ?_
                          intro b97 w49 hb97 H49 hs49
                          have HS50 : Holds w [Blk b5 25 [v1, v2], Blk b2 25 [.slice none 0 0, .slice none 0 0], Blk b1 41 [.int .i64 p.kinds, .int .i64 p.rules, .slice a.d p.dflt.length a.kd, .slice a.b p.base.length a.kb, .slice a.c p.check.length a.kc, .slice a.e p.cell.length a.ke, .slice a.gb p.gbase.length a.kgb, .slice a.gc p.gcheck.length a.kgc, .slice a.ge p.gcell.length a.kge]] _ := H49.pm (by repeat constructor)
                          refine wl_nil (tn ⟨fun _ => HS50, ?_⟩)
                          refine wj_t (k := 4) rfl (by kernel_rfl) ?_
                          refine wl_appRR (f := fMv) (e := 38) (e2 := 48) (v := v1) (u := .slice A7 p.kinds.toNat p.kinds.toNat) (xs := mvRow p i p.kinds.toNat) (xss := mvs p i) H49 (by repeat constructor) (by repeat constructor) (H49.at (by repeat constructor) rfl) rfl Try.underlying22 info38 rfl rfl rfl (by rw [mvs_len]; omega) (by decide) ?_
                          intro A98 c98 w51 H51 hs51
                          have HS52 : Holds w [Blk b5 25 [v1, v2], Blk b2 25 [.slice none 0 0, .slice none 0 0], Blk b1 41 [.int .i64 p.kinds, .int .i64 p.rules, .slice a.d p.dflt.length a.kd, .slice a.b p.base.length a.kb, .slice a.c p.check.length a.kc, .slice a.e p.cell.length a.ke, .slice a.gb p.gbase.length a.kgb, .slice a.gc p.gcheck.length a.kgc, .slice a.ge p.gcell.length a.kge]] _ := H51.pm (by repeat constructor)
                          refine wl_nil (tn ⟨fun _ => HS52, ?_⟩)
                          refine wj_v (k := 10) rfl (by kernel_rfl) (fun _ _ _ h => h) HS52 rfl rfl rfl (fun W HW => v_fb (o2 := 0) fa25_0 rfl rfl) ?_
                          refine wj_t (k := 9) rfl (by kernel_rfl) ?_
                          refine wl_appRR (f := fInt .i64) (e := 39) (e2 := 3) (v := v2) (u := .slice A8 p.rules.toNat p.rules.toNat) (xs := goRw p i p.rules.toNat) (xss := gos p i) H51 (by repeat constructor) (by repeat constructor) (H51.at (by repeat constructor) rfl) rfl Try.underlying23 info39 rfl rfl rfl (by rw [gos_len]; omega) (by decide) ?_
                          intro A103 c103 w53 H53 hs53
                          have HS54 : Holds w [Blk b5 25 [v1, v2], Blk b2 25 [.slice none 0 0, .slice none 0 0], Blk b1 41 [.int .i64 p.kinds, .int .i64 p.rules, .slice a.d p.dflt.length a.kd, .slice a.b p.base.length a.kb, .slice a.c p.check.length a.kc, .slice a.e p.cell.length a.ke, .slice a.gb p.gbase.length a.kgb, .slice a.gc p.gcheck.length a.kgc, .slice a.ge p.gcell.length a.kge]] _ := H53.pm (by repeat constructor)
                          refine wl_nil (tn ⟨fun _ => HS54, ?_⟩)
                          refine wj_t (k := 11) rfl (by kernel_rfl) ?_
                          refine wl_store (vs := [_]) H53 (by repeat constructor) sz22 rfl rfl rfl rfl rfl (by repeat constructor) ?_
                          intro w55 H56 hw55
                          refine wl_nil (tn ⟨fun hlt => absurd hlt (by rw [show allH _ _ _ = true by kernel_rfl]; simp), ?_⟩)
                          refine wj_t (k := 12) rfl (by kernel_rfl) ?_
                          refine wl_v rfl rfl rfl (v_fb (o2 := 1) fa25_1 rfl rfl) ?_
                          refine wl_nil (tn ⟨fun hlt => absurd hlt (by rw [show allH _ _ _ = true by kernel_rfl]; simp), ?_⟩)
                          refine wj_t (k := 13) rfl (by kernel_rfl) ?_
                          refine wl_store (vs := [_]) H56 (by repeat constructor) sz23 rfl rfl rfl rfl rfl (by repeat constructor) ?_
                          intro w59 H60 hw59
                          refine wl_nil (tn ⟨fun hlt => absurd hlt (by rw [show allH _ _ _ = true by kernel_rfl]; simp), ?_⟩)
                          refine wj_done (by kernel_rfl) ?_
                          refine wc_region ?_
                          refine wl_v rfl rfl rfl (v_addi rfl rfl (by omega)) ?_
                          refine wl_v rfl rfl rfl (v_move rfl) ?_
                          refine wl_nil ?_
                          rw [← mvs_succ, ← gos_succ] at H60
                          exact ⟨i + 1, (sc rfl (sc rfl (sc rfl (sc rfl (sc rfl (sc rfl (sc rfl (sn _)))))))), ⟨by omega, _, _, H60.pm (by repeat constructor)⟩, by omega⟩
                  · have c1p := of_decide_eq_false c1
                    have hie : i = p.dflt.length := by omega
                    subst hie
                    obtain ⟨A1, k1, rfl, _⟩ := H.rr (f := fMv) (e := 38) (e2 := 48) (v := v1) (xss := mvs p p.dflt.length) (by repeat constructor)
                    obtain ⟨A2, k2, rfl, _⟩ := H.rr (f := fInt .i64) (e := 39) (e2 := 3) (v := v2) (xss := gos p p.dflt.length) (by repeat constructor)
                    refine wc_exit ?_
                    refine wc_seq ?_
                    refine wc_region ?_
                    refine wl_v rfl rfl rfl (v_loadN agg25 rfl rfl (H.ats (by repeat constructor))) ?_
                    refine wl_store (vs := [_, _]) H (by repeat constructor) sz25 rfl rfl rfl rfl rfl (by repeat constructor) ?_
                    intro w62 H63 hw62
                    refine wl_v rfl rfl rfl (v_assign rfl) ?_
                    refine wl_nil ?_
                    refine wc_ret ?_
                    first
                      | (have hu : UpOk p := ⟨by omega, by omega, by omega, by omega, by omega, by omega, by omega, by omega⟩
                         exact ⟨_, resc2 rfl rfl (run_loadVarN agg25 rfl (H63.ats (by repeat constructor))) rfl, _, _, by rw [(up_t hu).2], by rw [(up_t hu).1]; exact H63.pm (by repeat constructor)⟩)
                      | (have hu : ¬ UpOk p := fun hu => by obtain ⟨u1, u2, u3, u4, u5, u6, u7, u8⟩ := hu; omega
                         exact ⟨_, resc2 rfl rfl (run_loadVarN agg25 rfl (H63.ats (by repeat constructor))) rfl, _, _, by rw [(up_f hu).2], by rw [(up_f hu).1]; exact ((H63.rrNil fMv 38 48).rrNil (fInt .i64) 39 3).pm (by repeat constructor)⟩)
              · have g47p := of_nd_t g47
                refine wl_off rfl rfl g47 rfl ?_
                refine wl_off rfl rfl g47 rfl ?_
                refine wl_off rfl rfl g47 rfl ?_
                refine wl_off rfl rfl g47 rfl ?_
                refine wl_v rfl rfl rfl (v_pick_t rfl g47 rfl) ?_
                refine wl_nil ?_
                refine wc_cond_t rfl ?_
                refine wc_seq ?_
                refine wc_region ?_
                refine wl_v rfl rfl rfl (v_bld ba25 rfl (by repeat constructor)) ?_
                refine wl_store (vs := [_, _]) H4 (by repeat constructor) sz25 rfl rfl rfl rfl rfl (by repeat constructor) ?_
                intro w64 H65 hw64
                refine wl_v rfl rfl rfl (v_assign rfl) ?_
                refine wl_nil ?_
                refine wc_ret ?_
                first
                  | (have hu : UpOk p := ⟨by omega, by omega, by omega, by omega, by omega, by omega, by omega, by omega⟩
                     exact ⟨_, resc2 rfl rfl (run_loadVarN agg25 rfl (H65.ats (by repeat constructor))) rfl, _, _, by rw [(up_t hu).2], by rw [(up_t hu).1]; exact H65.pm (by repeat constructor)⟩)
                  | (have hu : ¬ UpOk p := fun hu => by obtain ⟨u1, u2, u3, u4, u5, u6, u7, u8⟩ := hu; omega
                     exact ⟨_, resc2 rfl rfl (run_loadVarN agg25 rfl (H65.ats (by repeat constructor))) rfl, _, _, by rw [(up_f hu).2], by rw [(up_f hu).1]; exact ((H65.rrNil fMv 38 48).rrNil (fInt .i64) 39 3).pm (by repeat constructor)⟩)
            · have g40p := of_decide_eq_true g40
              refine wl_off rfl rfl g40 rfl ?_
              refine wl_off rfl rfl g40 rfl ?_
              refine wl_off rfl rfl g40 rfl ?_
              refine wl_off rfl rfl g40 rfl ?_
              refine wl_v rfl rfl rfl (v_pick_t rfl g40 rfl) ?_
              refine wl_v rfl rfl rfl (v_move rfl) ?_
              refine wl_off rfl rfl rfl rfl ?_
              refine wl_off rfl rfl rfl rfl ?_
              refine wl_off rfl rfl rfl rfl ?_
              refine wl_off rfl rfl rfl rfl ?_
              refine wl_off rfl rfl rfl rfl ?_
              refine wl_v rfl rfl rfl (v_pick_t rfl rfl rfl) ?_
              refine wl_nil ?_
              refine wc_cond_t rfl ?_
              refine wc_seq ?_
              refine wc_region ?_
              refine wl_v rfl rfl rfl (v_bld ba25 rfl (by repeat constructor)) ?_
              refine wl_store (vs := [_, _]) H4 (by repeat constructor) sz25 rfl rfl rfl rfl rfl (by repeat constructor) ?_
              intro w66 H67 hw66
              refine wl_v rfl rfl rfl (v_assign rfl) ?_
              refine wl_nil ?_
              refine wc_ret ?_
              first
                | (have hu : UpOk p := ⟨by omega, by omega, by omega, by omega, by omega, by omega, by omega, by omega⟩
                   exact ⟨_, resc2 rfl rfl (run_loadVarN agg25 rfl (H67.ats (by repeat constructor))) rfl, _, _, by rw [(up_t hu).2], by rw [(up_t hu).1]; exact H67.pm (by repeat constructor)⟩)
                | (have hu : ¬ UpOk p := fun hu => by obtain ⟨u1, u2, u3, u4, u5, u6, u7, u8⟩ := hu; omega
                   exact ⟨_, resc2 rfl rfl (run_loadVarN agg25 rfl (H67.ats (by repeat constructor))) rfl, _, _, by rw [(up_f hu).2], by rw [(up_f hu).1]; exact ((H67.rrNil fMv 38 48).rrNil (fInt .i64) 39 3).pm (by repeat constructor)⟩)
          · have g35p := of_decide_eq_true g35
            refine wl_off rfl rfl g35 rfl ?_
            refine wl_off rfl rfl g35 rfl ?_
            refine wl_v rfl rfl rfl (v_pick_t rfl g35 rfl) ?_
            refine wl_v rfl rfl rfl (v_move rfl) ?_
            refine wl_off rfl rfl rfl rfl ?_
            refine wl_off rfl rfl rfl rfl ?_
            refine wl_off rfl rfl rfl rfl ?_
            refine wl_off rfl rfl rfl rfl ?_
            refine wl_off rfl rfl rfl rfl ?_
            refine wl_v rfl rfl rfl (v_pick_t rfl rfl rfl) ?_
            refine wl_v rfl rfl rfl (v_move rfl) ?_
            refine wl_off rfl rfl rfl rfl ?_
            refine wl_off rfl rfl rfl rfl ?_
            refine wl_off rfl rfl rfl rfl ?_
            refine wl_off rfl rfl rfl rfl ?_
            refine wl_off rfl rfl rfl rfl ?_
            refine wl_v rfl rfl rfl (v_pick_t rfl rfl rfl) ?_
            refine wl_nil ?_
            refine wc_cond_t rfl ?_
            refine wc_seq ?_
            refine wc_region ?_
            refine wl_v rfl rfl rfl (v_bld ba25 rfl (by repeat constructor)) ?_
            refine wl_store (vs := [_, _]) H4 (by repeat constructor) sz25 rfl rfl rfl rfl rfl (by repeat constructor) ?_
            intro w68 H69 hw68
            refine wl_v rfl rfl rfl (v_assign rfl) ?_
            refine wl_nil ?_
            refine wc_ret ?_
            first
              | (have hu : UpOk p := ⟨by omega, by omega, by omega, by omega, by omega, by omega, by omega, by omega⟩
                 exact ⟨_, resc2 rfl rfl (run_loadVarN agg25 rfl (H69.ats (by repeat constructor))) rfl, _, _, by rw [(up_t hu).2], by rw [(up_t hu).1]; exact H69.pm (by repeat constructor)⟩)
              | (have hu : ¬ UpOk p := fun hu => by obtain ⟨u1, u2, u3, u4, u5, u6, u7, u8⟩ := hu; omega
                 exact ⟨_, resc2 rfl rfl (run_loadVarN agg25 rfl (H69.ats (by repeat constructor))) rfl, _, _, by rw [(up_f hu).2], by rw [(up_f hu).1]; exact ((H69.rrNil fMv 38 48).rrNil (fInt .i64) 39 3).pm (by repeat constructor)⟩)
        · have g30p := of_decide_eq_true g30
          refine wl_off rfl rfl g30 rfl ?_
          refine wl_off rfl rfl g30 rfl ?_
          refine wl_v rfl rfl rfl (v_pick_t rfl g30 rfl) ?_
          refine wl_v rfl rfl rfl (v_move rfl) ?_
          refine wl_off rfl rfl rfl rfl ?_
          refine wl_off rfl rfl rfl rfl ?_
          refine wl_off rfl rfl rfl rfl ?_
          refine wl_v rfl rfl rfl (v_pick_t rfl rfl rfl) ?_
          refine wl_v rfl rfl rfl (v_move rfl) ?_
          refine wl_off rfl rfl rfl rfl ?_
          refine wl_off rfl rfl rfl rfl ?_
          refine wl_off rfl rfl rfl rfl ?_
          refine wl_off rfl rfl rfl rfl ?_
          refine wl_off rfl rfl rfl rfl ?_
          refine wl_v rfl rfl rfl (v_pick_t rfl rfl rfl) ?_
          refine wl_v rfl rfl rfl (v_move rfl) ?_
          refine wl_off rfl rfl rfl rfl ?_
          refine wl_off rfl rfl rfl rfl ?_
          refine wl_off rfl rfl rfl rfl ?_
          refine wl_off rfl rfl rfl rfl ?_
          refine wl_off rfl rfl rfl rfl ?_
          refine wl_v rfl rfl rfl (v_pick_t rfl rfl rfl) ?_
          refine wl_nil ?_
          refine wc_cond_t rfl ?_
          refine wc_seq ?_
          refine wc_region ?_
          refine wl_v rfl rfl rfl (v_bld ba25 rfl (by repeat constructor)) ?_
          refine wl_store (vs := [_, _]) H4 (by repeat constructor) sz25 rfl rfl rfl rfl rfl (by repeat constructor) ?_
          intro w70 H71 hw70
          refine wl_v rfl rfl rfl (v_assign rfl) ?_
          refine wl_nil ?_
          refine wc_ret ?_
          first
            | (have hu : UpOk p := ⟨by omega, by omega, by omega, by omega, by omega, by omega, by omega, by omega⟩
               exact ⟨_, resc2 rfl rfl (run_loadVarN agg25 rfl (H71.ats (by repeat constructor))) rfl, _, _, by rw [(up_t hu).2], by rw [(up_t hu).1]; exact H71.pm (by repeat constructor)⟩)
            | (have hu : ¬ UpOk p := fun hu => by obtain ⟨u1, u2, u3, u4, u5, u6, u7, u8⟩ := hu; omega
               exact ⟨_, resc2 rfl rfl (run_loadVarN agg25 rfl (H71.ats (by repeat constructor))) rfl, _, _, by rw [(up_f hu).2], by rw [(up_f hu).1]; exact ((H71.rrNil fMv 38 48).rrNil (fInt .i64) 39 3).pm (by repeat constructor)⟩)
      · have g25p := of_decide_eq_true g25
        refine wl_off rfl rfl g25 rfl ?_
        refine wl_off rfl rfl g25 rfl ?_
        refine wl_v rfl rfl rfl (v_pick_t rfl g25 rfl) ?_
        refine wl_v rfl rfl rfl (v_move rfl) ?_
        refine wl_off rfl rfl rfl rfl ?_
        refine wl_off rfl rfl rfl rfl ?_
        refine wl_off rfl rfl rfl rfl ?_
        refine wl_v rfl rfl rfl (v_pick_t rfl rfl rfl) ?_
        refine wl_v rfl rfl rfl (v_move rfl) ?_
        refine wl_off rfl rfl rfl rfl ?_
        refine wl_off rfl rfl rfl rfl ?_
        refine wl_off rfl rfl rfl rfl ?_
        refine wl_v rfl rfl rfl (v_pick_t rfl rfl rfl) ?_
        refine wl_v rfl rfl rfl (v_move rfl) ?_
        refine wl_off rfl rfl rfl rfl ?_
        refine wl_off rfl rfl rfl rfl ?_
        refine wl_off rfl rfl rfl rfl ?_
        refine wl_off rfl rfl rfl rfl ?_
        refine wl_off rfl rfl rfl rfl ?_
        refine wl_v rfl rfl rfl (v_pick_t rfl rfl rfl) ?_
        refine wl_v rfl rfl rfl (v_move rfl) ?_
        refine wl_off rfl rfl rfl rfl ?_
        refine wl_off rfl rfl rfl rfl ?_
        refine wl_off rfl rfl rfl rfl ?_
        refine wl_off rfl rfl rfl rfl ?_
        refine wl_off rfl rfl rfl rfl ?_
        refine wl_v rfl rfl rfl (v_pick_t rfl rfl rfl) ?_
        refine wl_nil ?_
        refine wc_cond_t rfl ?_
        refine wc_seq ?_
        refine wc_region ?_
        refine wl_v rfl rfl rfl (v_bld ba25 rfl (by repeat constructor)) ?_
        refine wl_store (vs := [_, _]) H4 (by repeat constructor) sz25 rfl rfl rfl rfl rfl (by repeat constructor) ?_
        intro w72 H73 hw72
        refine wl_v rfl rfl rfl (v_assign rfl) ?_
        refine wl_nil ?_
        refine wc_ret ?_
        first
          | (have hu : UpOk p := ⟨by omega, by omega, by omega, by omega, by omega, by omega, by omega, by omega⟩
             exact ⟨_, resc2 rfl rfl (run_loadVarN agg25 rfl (H73.ats (by repeat constructor))) rfl, _, _, by rw [(up_t hu).2], by rw [(up_t hu).1]; exact H73.pm (by repeat constructor)⟩)
          | (have hu : ¬ UpOk p := fun hu => by obtain ⟨u1, u2, u3, u4, u5, u6, u7, u8⟩ := hu; omega
             exact ⟨_, resc2 rfl rfl (run_loadVarN agg25 rfl (H73.ats (by repeat constructor))) rfl, _, _, by rw [(up_f hu).2], by rw [(up_f hu).1]; exact ((H73.rrNil fMv 38 48).rrNil (fInt .i64) 39 3).pm (by repeat constructor)⟩)
    · have g20p := of_decide_eq_true g20
      refine wl_off rfl rfl g20 rfl ?_
      refine wl_off rfl rfl g20 rfl ?_
      refine wl_v rfl rfl rfl (v_pick_t rfl g20 rfl) ?_
      refine wl_v rfl rfl rfl (v_move rfl) ?_
      refine wl_off rfl rfl rfl rfl ?_
      refine wl_off rfl rfl rfl rfl ?_
      refine wl_off rfl rfl rfl rfl ?_
      refine wl_v rfl rfl rfl (v_pick_t rfl rfl rfl) ?_
      refine wl_v rfl rfl rfl (v_move rfl) ?_
      refine wl_off rfl rfl rfl rfl ?_
      refine wl_off rfl rfl rfl rfl ?_
      refine wl_off rfl rfl rfl rfl ?_
      refine wl_v rfl rfl rfl (v_pick_t rfl rfl rfl) ?_
      refine wl_v rfl rfl rfl (v_move rfl) ?_
      refine wl_off rfl rfl rfl rfl ?_
      refine wl_off rfl rfl rfl rfl ?_
      refine wl_off rfl rfl rfl rfl ?_
      refine wl_v rfl rfl rfl (v_pick_t rfl rfl rfl) ?_
      refine wl_v rfl rfl rfl (v_move rfl) ?_
      refine wl_off rfl rfl rfl rfl ?_
      refine wl_off rfl rfl rfl rfl ?_
      refine wl_off rfl rfl rfl rfl ?_
      refine wl_off rfl rfl rfl rfl ?_
      refine wl_off rfl rfl rfl rfl ?_
      refine wl_v rfl rfl rfl (v_pick_t rfl rfl rfl) ?_
      refine wl_v rfl rfl rfl (v_move rfl) ?_
      refine wl_off rfl rfl rfl rfl ?_
      refine wl_off rfl rfl rfl rfl ?_
      refine wl_off rfl rfl rfl rfl ?_
      refine wl_off rfl rfl rfl rfl ?_
      refine wl_off rfl rfl rfl rfl ?_
      refine wl_v rfl rfl rfl (v_pick_t rfl rfl rfl) ?_
      refine wl_nil ?_
      refine wc_cond_t rfl ?_
      refine wc_seq ?_
      refine wc_region ?_
      refine wl_v rfl rfl rfl (v_bld ba25 rfl (by repeat constructor)) ?_
      refine wl_store (vs := [_, _]) H4 (by repeat constructor) sz25 rfl rfl rfl rfl rfl (by repeat constructor) ?_
      intro w74 H75 hw74
      refine wl_v rfl rfl rfl (v_assign rfl) ?_
      refine wl_nil ?_
      refine wc_ret ?_
      first
        | (have hu : UpOk p := ⟨by omega, by omega, by omega, by omega, by omega, by omega, by omega, by omega⟩
           exact ⟨_, resc2 rfl rfl (run_loadVarN agg25 rfl (H75.ats (by repeat constructor))) rfl, _, _, by rw [(up_t hu).2], by rw [(up_t hu).1]; exact H75.pm (by repeat constructor)⟩)
        | (have hu : ¬ UpOk p := fun hu => by obtain ⟨u1, u2, u3, u4, u5, u6, u7, u8⟩ := hu; omega
           exact ⟨_, resc2 rfl rfl (run_loadVarN agg25 rfl (H75.ats (by repeat constructor))) rfl, _, _, by rw [(up_f hu).2], by rw [(up_f hu).1]; exact ((H75.rrNil fMv 38 48).rrNil (fInt .i64) 39 3).pm (by repeat constructor)⟩)
  · have g16p := of_decide_eq_true g16
    refine wl_off rfl rfl g16 rfl ?_
    refine wl_v rfl rfl rfl (v_pick_t rfl g16 rfl) ?_
    refine wl_v rfl rfl rfl (v_move rfl) ?_
    refine wl_off rfl rfl rfl rfl ?_
    refine wl_off rfl rfl rfl rfl ?_
    refine wl_off rfl rfl rfl rfl ?_
    refine wl_v rfl rfl rfl (v_pick_t rfl rfl rfl) ?_
    refine wl_v rfl rfl rfl (v_move rfl) ?_
    refine wl_off rfl rfl rfl rfl ?_
    refine wl_off rfl rfl rfl rfl ?_
    refine wl_off rfl rfl rfl rfl ?_
    refine wl_v rfl rfl rfl (v_pick_t rfl rfl rfl) ?_
    refine wl_v rfl rfl rfl (v_move rfl) ?_
    refine wl_off rfl rfl rfl rfl ?_
    refine wl_off rfl rfl rfl rfl ?_
    refine wl_off rfl rfl rfl rfl ?_
    refine wl_v rfl rfl rfl (v_pick_t rfl rfl rfl) ?_
    refine wl_v rfl rfl rfl (v_move rfl) ?_
    refine wl_off rfl rfl rfl rfl ?_
    refine wl_off rfl rfl rfl rfl ?_
    refine wl_off rfl rfl rfl rfl ?_
    refine wl_v rfl rfl rfl (v_pick_t rfl rfl rfl) ?_
    refine wl_v rfl rfl rfl (v_move rfl) ?_
    refine wl_off rfl rfl rfl rfl ?_
    refine wl_off rfl rfl rfl rfl ?_
    refine wl_off rfl rfl rfl rfl ?_
    refine wl_off rfl rfl rfl rfl ?_
    refine wl_off rfl rfl rfl rfl ?_
    refine wl_v rfl rfl rfl (v_pick_t rfl rfl rfl) ?_
    refine wl_v rfl rfl rfl (v_move rfl) ?_
    refine wl_off rfl rfl rfl rfl ?_
    refine wl_off rfl rfl rfl rfl ?_
    refine wl_off rfl rfl rfl rfl ?_
    refine wl_off rfl rfl rfl rfl ?_
    refine wl_off rfl rfl rfl rfl ?_
    refine wl_v rfl rfl rfl (v_pick_t rfl rfl rfl) ?_
    refine wl_nil ?_
    refine wc_cond_t rfl ?_
    refine wc_seq ?_
    refine wc_region ?_
    refine wl_v rfl rfl rfl (v_bld ba25 rfl (by repeat constructor)) ?_
    refine wl_store (vs := [_, _]) H4 (by repeat constructor) sz25 rfl rfl rfl rfl rfl (by repeat constructor) ?_
    intro w76 H77 hw76
    refine wl_v rfl rfl rfl (v_assign rfl) ?_
    refine wl_nil ?_
    refine wc_ret ?_
    first
      | (have hu : UpOk p := ⟨by omega, by omega, by omega, by omega, by omega, by omega, by omega, by omega⟩
         exact ⟨_, resc2 rfl rfl (run_loadVarN agg25 rfl (H77.ats (by repeat constructor))) rfl, _, _, by rw [(up_t hu).2], by rw [(up_t hu).1]; exact H77.pm (by repeat constructor)⟩)
      | (have hu : ¬ UpOk p := fun hu => by obtain ⟨u1, u2, u3, u4, u5, u6, u7, u8⟩ := hu; omega
         exact ⟨_, resc2 rfl rfl (run_loadVarN agg25 rfl (H77.ats (by repeat constructor))) rfl, _, _, by rw [(up_f hu).2], by rw [(up_f hu).1]; exact ((H77.rrNil fMv 38 48).rrNil (fInt .i64) 39 3).pm (by repeat constructor)⟩)

set_option maxRecDepth 100000 in
theorem runpack_calls {a : PkA} {p : Pk} {w : World} (hp : p.rd w a) (hk : p.ok) :
    Calls Try.prog 22 #[p.val a] w fun e w' => ∃ v, e = .returned v ∧ ∃ v1 v2, v = .tuple #[.agg #[v1, v2], .int .i64 (upErr p)] ∧ Holds w (OwnT v1 v2 (upAns p)) w' := by
  have q1 := hk.d
  have q2 := hk.b
  have q3 := hk.c
  have q4 := hk.e
  have q5 := hk.gb
  have q6 := hk.gc
  have q7 := hk.ge
  have q8 := hk.ik
  have q9 := hk.ir
  unfold I64 at q8 q9
  refine calls_of Try.func22 rfl Try.ntmps22 rfl ?_
  have H := Holds.start w
  refine wc_seq ?_
  refine wc_region ?_
  refine wl_box (cs := [_, _, _, _, _, _, _, _, _]) H rfl rfl rfl ?_
  intro b1 w1 hb1 H2
  refine wl_alloc (cs := [.slice none 0 0, .slice none 0 0]) H2 rfl zv25 rfl ?_
  intro b2 w3 hb2 H4
  refine wl_v rfl rfl rfl (v_assign rfl) ?_
  refine wl_nil ?_
  refine wc_seq ?_
  refine wc_region ?_
  refine wl_v rfl rfl rfl (v_fb (o2 := 2) fa41_2 rfl rfl) ?_
  refine wl_v rfl rfl rfl (v_load one38 rfl (H4.at (by repeat constructor) rfl)) ?_
  refine wl_v rfl rfl rfl (v_len Try.underlying38 rfl) ?_
  refine wl_v rfl rfl rfl (v_assign rfl) ?_
  refine wl_nil ?_
  refine wc_seq ?_
  refine wc_seq ?_
  refine wc_region ?_
  refine wl_v rfl rfl rfl (v_move rfl) ?_
  refine wl_v rfl rfl rfl (v_lss rfl rfl) ?_
  refine wl_v rfl rfl rfl (v_move rfl) ?_
  refine wl_guard rfl rfl rfl (fun g16 => ?_) (fun g16 => ?_)
  · have g16p := of_decide_eq_false g16
    refine wl_v rfl rfl rfl (v_move rfl) ?_
    refine wl_on' rfl rfl g16 ?_
    refine wl_v rfl rfl rfl (v_gtr rfl rfl) ?_
    refine wl_v rfl rfl rfl (v_pick_f rfl g16 rfl) ?_
    refine wl_v rfl rfl rfl (v_move rfl) ?_
    refine wl_guard rfl rfl rfl (fun g20 => ?_) (fun g20 => ?_)
    · have g20p := of_decide_eq_false g20
      refine wl_v rfl rfl rfl (v_fb (o2 := 0) fa41_0 rfl rfl) ?_
      refine wl_on' rfl rfl g20 ?_
      refine wl_v rfl rfl rfl (v_load one3 rfl (H4.at (by repeat constructor) rfl)) ?_
      refine wl_on' rfl rfl g20 ?_
      refine wl_v rfl rfl rfl (v_lss rfl rfl) ?_
      refine wl_v rfl rfl rfl (v_pick_f rfl g20 rfl) ?_
      refine wl_v rfl rfl rfl (v_move rfl) ?_
      refine wl_guard rfl rfl rfl (fun g25 => ?_) (fun g25 => ?_)
      · have g25p := of_decide_eq_false g25
        refine wl_v rfl rfl rfl (v_fb (o2 := 0) fa41_0 rfl rfl) ?_
        refine wl_on' rfl rfl g25 ?_
        refine wl_v rfl rfl rfl (v_load one3 rfl (H4.at (by repeat constructor) rfl)) ?_
        refine wl_on' rfl rfl g25 ?_
        refine wl_v rfl rfl rfl (v_gtr rfl rfl) ?_
        refine wl_v rfl rfl rfl (v_pick_f rfl g25 rfl) ?_
        refine wl_v rfl rfl rfl (v_move rfl) ?_
        refine wl_guard rfl rfl rfl (fun g30 => ?_) (fun g30 => ?_)
        · have g30p := of_decide_eq_false g30
          refine wl_v rfl rfl rfl (v_fb (o2 := 1) fa41_1 rfl rfl) ?_
          refine wl_on' rfl rfl g30 ?_
          refine wl_v rfl rfl rfl (v_load one3 rfl (H4.at (by repeat constructor) rfl)) ?_
          refine wl_on' rfl rfl g30 ?_
          refine wl_v rfl rfl rfl (v_lss rfl rfl) ?_
          refine wl_v rfl rfl rfl (v_pick_f rfl g30 rfl) ?_
          refine wl_v rfl rfl rfl (v_move rfl) ?_
          refine wl_guard rfl rfl rfl (fun g35 => ?_) (fun g35 => ?_)
          · have g35p := of_decide_eq_false g35
            refine wl_v rfl rfl rfl (v_fb (o2 := 1) fa41_1 rfl rfl) ?_
            refine wl_on' rfl rfl g35 ?_
            refine wl_v rfl rfl rfl (v_load one3 rfl (H4.at (by repeat constructor) rfl)) ?_
            refine wl_on' rfl rfl g35 ?_
            refine wl_v rfl rfl rfl (v_gtr rfl rfl) ?_
            refine wl_v rfl rfl rfl (v_pick_f rfl g35 rfl) ?_
            refine wl_v rfl rfl rfl (v_move rfl) ?_
            refine wl_guard rfl rfl rfl (fun g40 => ?_) (fun g40 => ?_)
            · have g40p := of_decide_eq_false g40
              refine wl_v rfl rfl rfl (v_fb (o2 := 3) fa41_3 rfl rfl) ?_
              refine wl_on' rfl rfl g40 ?_
              refine wl_v rfl rfl rfl (v_load one39 rfl (H4.at (by repeat constructor) rfl)) ?_
              refine wl_on' rfl rfl g40 ?_
              refine wl_v rfl rfl rfl (v_len Try.underlying39 rfl) ?_
              refine wl_on' rfl rfl g40 ?_
              refine wl_v rfl rfl rfl (v_move rfl) ?_
              refine wl_on' rfl rfl g40 ?_
              refine wl_v rfl rfl rfl (v_neq rfl rfl) ?_
              refine wl_v rfl rfl rfl (v_pick_f rfl g40 rfl) ?_
              refine wl_v rfl rfl rfl (v_move rfl) ?_
              refine wl_guard rfl rfl rfl (fun g47 => ?_) (fun g47 => ?_)
              · have g47p := of_nd_f g47
                refine wl_v rfl rfl rfl (v_fb (o2 := 6) fa41_6 rfl rfl) ?_
                refine wl_on' rfl rfl g47 ?_
                refine wl_v rfl rfl rfl (v_load one39 rfl (H4.at (by repeat constructor) rfl)) ?_
                refine wl_on' rfl rfl g47 ?_
                refine wl_v rfl rfl rfl (v_len Try.underlying39 rfl) ?_
                refine wl_on' rfl rfl g47 ?_
                refine wl_v rfl rfl rfl (v_move rfl) ?_
                refine wl_on' rfl rfl g47 ?_
                refine wl_v rfl rfl rfl (v_neq rfl rfl) ?_
                refine wl_v rfl rfl rfl (v_pick_f rfl g47 rfl) ?_
                refine wl_nil ?_
                refine wc_cond rfl (fun c0 => ?_) (fun c0 => ?_)
                · have c0p := of_nd_t c0
                  refine wc_seq ?_
                  refine wc_region ?_
                  refine wl_v rfl rfl rfl (v_bld ba25 rfl (by repeat constructor)) ?_
                  refine wl_store (vs := [_, _]) H4 (by repeat constructor) sz25 rfl rfl rfl rfl rfl (by repeat constructor) ?_
                  intro w5 H6 hw5
                  refine wl_v rfl rfl rfl (v_assign rfl) ?_
                  refine wl_nil ?_
                  refine wc_ret ?_
                  first
                    | (have hu : UpOk p := ⟨by omega, by omega, by omega, by omega, by omega, by omega, by omega, by omega⟩
                       exact ⟨_, resc2 rfl rfl (run_loadVarN agg25 rfl (H6.ats (by repeat constructor))) rfl, _, _, by rw [(up_t hu).2], by rw [(up_t hu).1]; exact H6.pm (by repeat constructor)⟩)
                    | (have hu : ¬ UpOk p := fun hu => by obtain ⟨u1, u2, u3, u4, u5, u6, u7, u8⟩ := hu; omega
                       exact ⟨_, resc2 rfl rfl (run_loadVarN agg25 rfl (H6.ats (by repeat constructor))) rfl, _, _, by rw [(up_f hu).2], by rw [(up_f hu).1]; exact ((H6.rrNil fMv 38 48).rrNil (fInt .i64) 39 3).pm (by repeat constructor)⟩)
                · have c0p := of_nd_f c0
                  refine wc_skip ?_
                  refine wc_seq ?_
                  refine wc_region ?_
                  refine wl_alloc (cs := [.slice none 0 0, .slice none 0 0]) H4 rfl zv25 rfl ?_
                  intro b5 w7 hb5 H8
                  refine wl_nil ?_
                  refine wc_seq ?_
                  refine wc_seq ?_
                  refine wc_region ?_
                  refine wl_v rfl rfl rfl (v_assign rfl) ?_
                  refine wl_nil ?_
                  refine wc_block ?_
                  refine wc_loop (σ := Nat) (fun s => [(1, .pointer (some ⟨b1, 0, none⟩)), (2, .pointer (some ⟨b2, 0, none⟩)), (4, .int .i64 p.dflt.length), (5, .pointer (some ⟨b5, 0, none⟩)), (6, .int .i64 s)]) (fun s W => s ≤ p.dflt.length ∧ ∃ v1 v2, Holds w [RR fMv 38 48 v1 (mvs p s), RR (fInt .i64) 39 3 v2 (gos p s), Blk b5 25 [v1, v2], Blk b2 25 [.slice none 0 0, .slice none 0 0], Blk b1 41 [.int .i64 p.kinds, .int .i64 p.rules, .slice a.d p.dflt.length a.kd, .slice a.b p.base.length a.kb, .slice a.c p.check.length a.kc, .slice a.e p.cell.length a.ke, .slice a.gb p.gbase.length a.kgb, .slice a.gc p.gcheck.length a.kgc, .slice a.ge p.gcell.length a.kge]] W) (fun s => p.dflt.length - s) 0 (sc rfl (sc rfl (sc rfl (sc rfl (sc rfl (sn _)))))) ⟨Nat.zero_le _, _, _, ((H8.rrNil fMv 38 48).rrNil (fInt .i64) 39 3).pm (by repeat constructor)⟩ ?_
                  rintro i W0 ⟨hi, v1, v2, H⟩
                  refine wc_seq ?_
                  refine wc_seq ?_
                  refine wc_region ?_
                  refine wl_v rfl rfl rfl (v_move rfl) ?_
                  refine wl_v rfl rfl rfl (v_move rfl) ?_
                  refine wl_v rfl rfl rfl (v_lss rfl rfl) ?_
                  refine wl_nil ?_
                  refine wc_cond rfl (fun c1 => ?_) (fun c1 => ?_)
                  · have c1p := of_decide_eq_true c1
                    refine wc_skip ?_
                    refine wc_seq ?_
                    refine wc_block ?_
                    refine wc_seq ?_
                    refine wc_region ?_
                    refine wl_v rfl rfl rfl (v_assign rfl) ?_
                    refine wl_nil ?_
                    refine wc_seq ?_
                    refine wc_region ?_
                    refine wl_v rfl rfl rfl (v_assign rfl) ?_
                    refine wl_nil ?_
                    refine wc_seq ?_
                    refine wc_seq ?_
                    refine wc_region ?_
                    refine wl_v rfl rfl rfl (v_assign rfl) ?_
                    refine wl_nil ?_
                    refine wc_block ?_
                    refine wc_loop (σ := Nat × Option Addr × Nat) (fun s => [(1, .pointer (some ⟨b1, 0, none⟩)), (2, .pointer (some ⟨b2, 0, none⟩)), (4, .int .i64 p.dflt.length), (5, .pointer (some ⟨b5, 0, none⟩)), (6, .int .i64 i), (7, .slice s.2.1 (mvRow p i s.1).length s.2.2), (8, .slice none 0 0), (9, .int .i64 s.1)]) (fun s W => s.1 ≤ p.kinds.toNat ∧ Holds w [Row fMv 48 (.slice s.2.1 (mvRow p i s.1).length s.2.2) (mvRow p i s.1), RR fMv 38 48 v1 (mvs p i), RR (fInt .i64) 39 3 v2 (gos p i), Blk b5 25 [v1, v2], Blk b2 25 [.slice none 0 0, .slice none 0 0], Blk b1 41 [.int .i64 p.kinds, .int .i64 p.rules, .slice a.d p.dflt.length a.kd, .slice a.b p.base.length a.kb, .slice a.c p.check.length a.kc, .slice a.e p.cell.length a.ke, .slice a.gb p.gbase.length a.kgb, .slice a.gc p.gcheck.length a.kgc, .slice a.ge p.gcell.length a.kge]] W) (fun s => p.kinds.toNat - s.1) (0, none, 0) (sc rfl (sc rfl (sc rfl (sc rfl (sc rfl (sc rfl (sc rfl (sc rfl (sn _))))))))) ⟨Nat.zero_le _, (H.nilrow 48 2).pm (by repeat constructor)⟩ ?_
                    rintro ⟨j, A7, c7⟩ W1 ⟨hj, H⟩
                    dsimp only at hj H ⊢
                    refine wc_seq ?_
                    refine wc_seq ?_
                    refine wc_region ?_
                    refine wl_v rfl rfl rfl (v_move rfl) ?_
                    refine wl_v rfl rfl rfl (v_fb (o2 := 0) fa41_0 rfl rfl) ?_
                    refine wl_v rfl rfl rfl (v_load one3 rfl (H.at (by repeat constructor) rfl)) ?_
                    refine wl_v rfl rfl rfl (v_lss rfl rfl) ?_
                    refine wl_nil ?_
                    refine wc_cond rfl (fun c2 => ?_) (fun c2 => ?_)
                    · have c2p := of_decide_eq_true c2
                      refine wc_skip ?_
                      refine wc_seq ?_
                      refine wc_block ?_
                      refine wc_region ?_
                      refine wl_v rfl rfl rfl (v_move rfl) ?_
                      refine wl_v rfl rfl rfl (v_loadN agg41 rfl rfl (H.ats (by repeat constructor))) ?_
                      refine wl_v rfl rfl rfl (v_move rfl) ?_
                      refine wl_v rfl rfl rfl (v_move rfl) ?_
                      refine wl_call en24 rfl rfl (rmove2_calls (hp.below H.old) hk (by unfold I64; omega) (by unfold I64; omega)) ?_
                      rintro _ w9 ⟨rfl, Hc⟩
                      have H10 := H.call Hc
                      refine wl_slit (v := .agg #[.int .i64 0, .int .i64 0]) (z := [.int .i64 0, .int .i64 0]) (cs := [.int .i64 (lookMv p i j).d, .int .i64 (lookMv p i j).n]) (sz := 2) H10 rfl Try.underlying38 sz48 zv48 (by decide) (by decide) (by kernel_rfl) rfl (by repeat constructor) ?_
                      intro b71 w11 hb71 H11 hs11
                      refine wl_app1 (f := fMv) (xs := mvRow p i j) (y' := lookMv p i j) H11 (fun v' => (by repeat constructor)) (by repeat constructor) rfl Try.underlying38 info48 rfl (by decide) rfl rfl rfl (by rw [mvRow_len]; omega) (by decide) ?_
                      intro A72 c72 w12 H12 hs12
                      refine wl_v rfl rfl rfl (v_assign rfl) ?_
                      refine wl_nil ?_
                      refine wc_region ?_
                      refine wl_v rfl rfl rfl (v_move rfl) ?_
                      refine wl_v rfl rfl rfl (v_addi rfl rfl (by omega)) ?_
                      refine wl_v rfl rfl rfl (v_assign rfl) ?_
                      refine wl_nil ?_
                      exact ⟨(j + 1, A72, c72), by rw [mvRow_succ]; exact (sc rfl (sc rfl (sc rfl (sc rfl (sc rfl (sc rfl (sc rfl (sc rfl (sn _))))))))), ⟨by dsimp only; omega, by rw [mvRow_succ]; exact H12.pm (by repeat constructor)⟩, by dsimp only; omega⟩
                    · have c2p := of_decide_eq_false c2
                      have hje : j = p.kinds.toNat := by omega
                      subst hje
                      refine wc_exit ?_
                      refine wc_seq ?_
                      refine wc_seq ?_
                      refine wc_region ?_
                      refine wl_v rfl rfl rfl (v_assign rfl) ?_
                      refine wl_nil ?_
                      refine wc_block ?_
                      refine wc_loop (σ := Nat × Option Addr × Nat) (fun s => [(1, .pointer (some ⟨b1, 0, none⟩)), (2, .pointer (some ⟨b2, 0, none⟩)), (4, .int .i64 p.dflt.length), (5, .pointer (some ⟨b5, 0, none⟩)), (6, .int .i64 i), (7, .slice A7 (mvRow p i p.kinds.toNat).length c7), (8, .slice s.2.1 (goRw p i s.1).length s.2.2), (10, .int .i64 s.1)]) (fun s W => s.1 ≤ p.rules.toNat ∧ Holds w [Row (fInt .i64) 3 (.slice s.2.1 (goRw p i s.1).length s.2.2) (goRw p i s.1), Row fMv 48 (.slice A7 (mvRow p i p.kinds.toNat).length c7) (mvRow p i p.kinds.toNat), RR fMv 38 48 v1 (mvs p i), RR (fInt .i64) 39 3 v2 (gos p i), Blk b5 25 [v1, v2], Blk b2 25 [.slice none 0 0, .slice none 0 0], Blk b1 41 [.int .i64 p.kinds, .int .i64 p.rules, .slice a.d p.dflt.length a.kd, .slice a.b p.base.length a.kb, .slice a.c p.check.length a.kc, .slice a.e p.cell.length a.ke, .slice a.gb p.gbase.length a.kgb, .slice a.gc p.gcheck.length a.kgc, .slice a.ge p.gcell.length a.kge]] W) (fun s => p.rules.toNat - s.1) (0, none, 0) (sc rfl (sc rfl (sc rfl (sc rfl (sc rfl (sc rfl (sc rfl (sc rfl (sn _))))))))) ⟨Nat.zero_le _, (H.nilrow 3 1).pm (by repeat constructor)⟩ ?_
                      rintro ⟨j, A8, c8⟩ W2 ⟨hj, H⟩
                      dsimp only at hj H ⊢
                      refine wc_seq ?_
                      refine wc_seq ?_
                      refine wc_region ?_
                      refine wl_v rfl rfl rfl (v_move rfl) ?_
                      refine wl_v rfl rfl rfl (v_fb (o2 := 1) fa41_1 rfl rfl) ?_
                      refine wl_v rfl rfl rfl (v_load one3 rfl (H.at (by repeat constructor) rfl)) ?_
                      refine wl_v rfl rfl rfl (v_lss rfl rfl) ?_
                      refine wl_nil ?_
                      refine wc_cond rfl (fun c3 => ?_) (fun c3 => ?_)
                      · have c3p := of_decide_eq_true c3
                        refine wc_skip ?_
                        refine wc_seq ?_
                        refine wc_block ?_
                        refine wc_region ?_
                        refine wl_v rfl rfl rfl (v_move rfl) ?_
                        refine wl_v rfl rfl rfl (v_loadN agg41 rfl rfl (H.ats (by repeat constructor))) ?_
                        refine wl_v rfl rfl rfl (v_move rfl) ?_
                        refine wl_v rfl rfl rfl (v_move rfl) ?_
                        refine wl_call en26 rfl rfl (rgoto_calls (hp.below H.old) hk (by unfold I64; omega) (by unfold I64; omega)) ?_
                        rintro _ w13 ⟨rfl, Hc⟩
                        have H14 := H.call Hc
                        refine wl_slit (v := .int .i64 0) (z := [.int .i64 0]) (cs := [.int .i64 (lookGo p i j)]) (sz := 1) H14 rfl Try.underlying39 sz3 zv3 (by decide) (by decide) (by kernel_rfl) rfl (by repeat constructor) ?_
                        intro b84 w15 hb84 H15 hs15
                        refine wl_app1 (f := fInt .i64) (xs := goRw p i j) (y' := lookGo p i j) H15 (fun v' => (by repeat constructor)) (by repeat constructor) rfl Try.underlying39 info3 rfl (by decide) rfl rfl rfl (by rw [goRw_len]; omega) (by decide) ?_
                        intro A85 c85 w16 H16 hs16
                        refine wl_v rfl rfl rfl (v_assign rfl) ?_
                        refine wl_nil ?_
                        refine wc_region ?_
                        refine wl_v rfl rfl rfl (v_move rfl) ?_
                        refine wl_v rfl rfl rfl (v_addi rfl rfl (by omega)) ?_
                        refine wl_v rfl rfl rfl (v_assign rfl) ?_
                        refine wl_nil ?_
                        exact ⟨(j + 1, A85, c85), by rw [goRw_succ]; exact (sc rfl (sc rfl (sc rfl (sc rfl (sc rfl (sc rfl (sc rfl (sc rfl (sn _))))))))), ⟨by dsimp only; omega, by rw [goRw_succ]; exact H16.pm (by repeat constructor)⟩, by dsimp only; omega⟩
                      · have c3p := of_decide_eq_false c3
                        have hje : j = p.rules.toNat := by omega
                        subst hje
                        refine wc_exit ?_
                        refine wc_tree [0, 1, 2, 5, 6, 7, 10] (fun W => Holds w [Blk b5 25 [v1, v2], Blk b2 25 [.slice none 0 0, .slice none 0 0], Blk b1 41 [.int .i64 p.kinds, .int .i64 p.rules, .slice a.d p.dflt.length a.kd, .slice a.b p.base.length a.kb, .slice a.c p.check.length a.kc, .slice a.e p.cell.length a.ke, .slice a.gb p.gbase.length a.kgb, .slice a.gc p.gcheck.length a.kgc, .slice a.ge p.gcell.length a.kge]] W) mixed ?_
                        have Hd := H.drew
                        have HSd : Holds w [Blk b5 25 [v1, v2], Blk b2 25 [.slice none 0 0, .slice none 0 0], Blk b1 41 [.int .i64 p.kinds, .int .i64 p.rules, .slice a.d p.dflt.length a.kd, .slice a.b p.base.length a.kb, .slice a.c p.check.length a.kc, .slice a.e p.cell.length a.ke, .slice a.gb p.gbase.length a.kgb, .slice a.gc p.gcheck.length a.kgc, .slice a.ge p.gcell.length a.kge]] _ := Hd.pm (by repeat constructor)
                        refine wj_v (k := 0) rfl (by kernel_rfl) (fun _ _ _ h => h) HSd rfl rfl rfl (fun W HW => v_fb (o2 := 0) fa25_0 rfl rfl) ?_
                        refine wj_v (k := 1) rfl (by kernel_rfl) (fun _ _ _ h => h) HSd rfl rfl rfl (fun W HW => v_load one22 rfl (HW.at (by repeat constructor) rfl)) ?_
                        refine wj_v (k := 2) rfl (by kernel_rfl) (fun _ _ _ h => h) HSd rfl rfl rfl (fun W HW => v_move rfl) ?_
                        refine wj_v (k := 5) rfl (by kernel_rfl) (fun _ _ _ h => h) HSd rfl rfl rfl (fun W HW => v_fb (o2 := 1) fa25_1 rfl rfl) ?_
                        refine wj_v (k := 6) rfl (by kernel_rfl) (fun _ _ _ h => h) HSd rfl rfl rfl (fun W HW => v_load one23 rfl (HW.at (by repeat constructor) rfl)) ?_
                        refine wj_v (k := 7) rfl (by kernel_rfl) (fun _ _ _ h => h) HSd rfl rfl rfl (fun W HW => v_move rfl) ?_
                        refine wj_2 (k := 3) (k2 := 8) rfl rfl (by kernel_rfl) ?_ ?_
                        · refine wl_slit (v := .slice none 0 0) (z := [.slice none 0 0]) (cs := [.slice A7 (mvRow p i p.kinds.toNat).length c7]) (sz := 1) Hd rfl Try.underlying22 sz38 zv38 (by decide) (by decide) (by kernel_rfl) rfl (by repeat constructor) ?_
                          intro b89 w17 hb89 H17 hs17
                          have HS18 : Holds w [Blk b5 25 [v1, v2], Blk b2 25 [.slice none 0 0, .slice none 0 0], Blk b1 41 [.int .i64 p.kinds, .int .i64 p.rules, .slice a.d p.dflt.length a.kd, .slice a.b p.base.length a.kb, .slice a.c p.check.length a.kc, .slice a.e p.cell.length a.ke, .slice a.gb p.gbase.length a.kgb, .slice a.gc p.gcheck.length a.kgc, .slice a.ge p.gcell.length a.kge]] _ := H17.pm (by repeat constructor)
                          refine wl_nil (tn ⟨fun _ => HS18, ?_⟩)
                          refine wj_2 (k := 4) (k2 := 8) rfl rfl (by kernel_rfl) ?_ ?_
                          · refine wl_appRR (f := fMv) (e := 38) (e2 := 48) (v := v1) (u := .slice A7 (mvRow p i p.kinds.toNat).length c7) (xs := mvRow p i p.kinds.toNat) (xss := mvs p i) H17 (by repeat constructor) (by repeat constructor) (H17.at (by repeat constructor) rfl) rfl Try.underlying22 info38 rfl rfl rfl (by rw [mvs_len]; omega) (by decide) ?_
                            intro A90 c90 w19 H19 hs19
                            have HS20 : Holds w [Blk b5 25 [v1, v2], Blk b2 25 [.slice none 0 0, .slice none 0 0], Blk b1 41 [.int .i64 p.kinds, .int .i64 p.rules, .slice a.d p.dflt.length a.kd, .slice a.b p.base.length a.kb, .slice a.c p.check.length a.kc, .slice a.e p.cell.length a.ke, .slice a.gb p.gbase.length a.kgb, .slice a.gc p.gcheck.length a.kgc, .slice a.ge p.gcell.length a.kge]] _ := H19.pm (by repeat constructor)
                            refine wl_nil (tn ⟨fun _ => HS20, ?_⟩)
                            refine wj_v (k := 10) rfl (by kernel_rfl) (fun _ _ _ h => h) HS20 rfl rfl rfl (fun W HW => v_fb (o2 := 0) fa25_0 rfl rfl) ?_
                            refine wj_t (k := 8) rfl (by kernel_rfl) ?_
                            refine wl_slit (v := .slice none 0 0) (z := [.slice none 0 0]) (cs := [.slice A8 (goRw p i p.rules.toNat).length c8]) (sz := 1) H19 rfl Try.underlying23 sz39 zv39 (by decide) (by decide) (by kernel_rfl) rfl (by repeat constructor) ?_
                            intro b94 w21 hb94 H21 hs21
                            have HS22 : Holds w [Blk b5 25 [v1, v2], Blk b2 25 [.slice none 0 0, .slice none 0 0], Blk b1 41 [.int .i64 p.kinds, .int .i64 p.rules, .slice a.d p.dflt.length a.kd, .slice a.b p.base.length a.kb, .slice a.c p.check.length a.kc, .slice a.e p.cell.length a.ke, .slice a.gb p.gbase.length a.kgb, .slice a.gc p.gcheck.length a.kgc, .slice a.ge p.gcell.length a.kge]] _ := H21.pm (by repeat constructor)
                            refine wl_nil (tn ⟨fun _ => HS22, ?_⟩)
                            refine wj_t (k := 9) rfl (by kernel_rfl) ?_
                            refine wl_appRR (f := fInt .i64) (e := 39) (e2 := 3) (v := v2) (u := .slice A8 (goRw p i p.rules.toNat).length c8) (xs := goRw p i p.rules.toNat) (xss := gos p i) H21 (by repeat constructor) (by repeat constructor) (H21.at (by repeat constructor) rfl) rfl Try.underlying23 info39 rfl rfl rfl (by rw [gos_len]; omega) (by decide) ?_
                            intro A95 c95 w23 H23 hs23
                            have HS24 : Holds w [Blk b5 25 [v1, v2], Blk b2 25 [.slice none 0 0, .slice none 0 0], Blk b1 41 [.int .i64 p.kinds, .int .i64 p.rules, .slice a.d p.dflt.length a.kd, .slice a.b p.base.length a.kb, .slice a.c p.check.length a.kc, .slice a.e p.cell.length a.ke, .slice a.gb p.gbase.length a.kgb, .slice a.gc p.gcheck.length a.kgc, .slice a.ge p.gcell.length a.kge]] _ := H23.pm (by repeat constructor)
                            refine wl_nil (tn ⟨fun _ => HS24, ?_⟩)
                            refine wj_t (k := 11) rfl (by kernel_rfl) ?_
                            refine wl_store (vs := [_]) H23 (by repeat constructor) sz22 rfl rfl rfl rfl rfl (by repeat constructor) ?_
                            intro w25 H26 hw25
                            refine wl_nil (tn ⟨fun hlt => absurd hlt (by rw [show allH _ _ _ = true by kernel_rfl]; simp), ?_⟩)
                            refine wj_t (k := 12) rfl (by kernel_rfl) ?_
                            refine wl_v rfl rfl rfl (v_fb (o2 := 1) fa25_1 rfl rfl) ?_
                            refine wl_nil (tn ⟨fun hlt => absurd hlt (by rw [show allH _ _ _ = true by kernel_rfl]; simp), ?_⟩)
                            refine wj_t (k := 13) rfl (by kernel_rfl) ?_
                            refine wl_store (vs := [_]) H26 (by repeat constructor) sz23 rfl rfl rfl rfl rfl (by repeat constructor) ?_
                            intro w29 H30 hw29
                            refine wl_nil (tn ⟨fun hlt => absurd hlt (by rw [show allH _ _ _ = true by kernel_rfl]; simp), ?_⟩)
                            refine wj_done (by kernel_rfl) ?_
                            refine wc_region ?_
                            refine wl_v rfl rfl rfl (v_move rfl) ?_
                            refine wl_v rfl rfl rfl (v_addi rfl rfl (by omega)) ?_
                            refine wl_v rfl rfl rfl (v_assign rfl) ?_
                            refine wl_nil ?_
                            rw [← mvs_succ, ← gos_succ] at H30
                            exact ⟨i + 1, (sc rfl (sc rfl (sc rfl (sc rfl (sc rfl (sn _)))))), ⟨by omega, _, _, H30.pm (by repeat constructor)⟩, by omega⟩
                          · refine wl_slit (v := .slice none 0 0) (z := [.slice none 0 0]) (cs := [.slice A8 (goRw p i p.rules.toNat).length c8]) (sz := 1) H17 rfl Try.underlying23 sz39 zv39 (by decide) (by decide) (by kernel_rfl) rfl (by repeat constructor) ?_
                            intro b94 w32 hb94 H32 hs32
                            have HS33 : Holds w [Blk b5 25 [v1, v2], Blk b2 25 [.slice none 0 0, .slice none 0 0], Blk b1 41 [.int .i64 p.kinds, .int .i64 p.rules, .slice a.d p.dflt.length a.kd, .slice a.b p.base.length a.kb, .slice a.c p.check.length a.kc, .slice a.e p.cell.length a.ke, .slice a.gb p.gbase.length a.kgb, .slice a.gc p.gcheck.length a.kgc, .slice a.ge p.gcell.length a.kge]] _ := H32.pm (by repeat constructor)
                            refine wl_nil (tn ⟨fun _ => HS33, ?_⟩)
                            refine wj_t (k := 4) rfl (by kernel_rfl) ?_
                            refine wl_appRR (f := fMv) (e := 38) (e2 := 48) (v := v1) (u := .slice A7 (mvRow p i p.kinds.toNat).length c7) (xs := mvRow p i p.kinds.toNat) (xss := mvs p i) H32 (by repeat constructor) (by repeat constructor) (H32.at (by repeat constructor) rfl) rfl Try.underlying22 info38 rfl rfl rfl (by rw [mvs_len]; omega) (by decide) ?_
                            intro A90 c90 w34 H34 hs34
                            have HS35 : Holds w [Blk b5 25 [v1, v2], Blk b2 25 [.slice none 0 0, .slice none 0 0], Blk b1 41 [.int .i64 p.kinds, .int .i64 p.rules, .slice a.d p.dflt.length a.kd, .slice a.b p.base.length a.kb, .slice a.c p.check.length a.kc, .slice a.e p.cell.length a.ke, .slice a.gb p.gbase.length a.kgb, .slice a.gc p.gcheck.length a.kgc, .slice a.ge p.gcell.length a.kge]] _ := H34.pm (by repeat constructor)
                            refine wl_nil (tn ⟨fun _ => HS35, ?_⟩)
                            refine wj_v (k := 10) rfl (by kernel_rfl) (fun _ _ _ h => h) HS35 rfl rfl rfl (fun W HW => v_fb (o2 := 0) fa25_0 rfl rfl) ?_
                            refine wj_t (k := 9) rfl (by kernel_rfl) ?_
                            refine wl_appRR (f := fInt .i64) (e := 39) (e2 := 3) (v := v2) (u := .slice A8 (goRw p i p.rules.toNat).length c8) (xs := goRw p i p.rules.toNat) (xss := gos p i) H34 (by repeat constructor) (by repeat constructor) (H34.at (by repeat constructor) rfl) rfl Try.underlying23 info39 rfl rfl rfl (by rw [gos_len]; omega) (by decide) ?_
                            intro A95 c95 w36 H36 hs36
                            have HS37 : Holds w [Blk b5 25 [v1, v2], Blk b2 25 [.slice none 0 0, .slice none 0 0], Blk b1 41 [.int .i64 p.kinds, .int .i64 p.rules, .slice a.d p.dflt.length a.kd, .slice a.b p.base.length a.kb, .slice a.c p.check.length a.kc, .slice a.e p.cell.length a.ke, .slice a.gb p.gbase.length a.kgb, .slice a.gc p.gcheck.length a.kgc, .slice a.ge p.gcell.length a.kge]] _ := H36.pm (by repeat constructor)
                            refine wl_nil (tn ⟨fun _ => HS37, ?_⟩)
                            refine wj_t (k := 11) rfl (by kernel_rfl) ?_
                            refine wl_store (vs := [_]) H36 (by repeat constructor) sz22 rfl rfl rfl rfl rfl (by repeat constructor) ?_
                            intro w38 H39 hw38
                            refine wl_nil (tn ⟨fun hlt => absurd hlt (by rw [show allH _ _ _ = true by kernel_rfl]; simp), ?_⟩)
                            refine wj_t (k := 12) rfl (by kernel_rfl) ?_
                            refine wl_v rfl rfl rfl (v_fb (o2 := 1) fa25_1 rfl rfl) ?_
                            refine wl_nil (tn ⟨fun hlt => absurd hlt (by rw [show allH _ _ _ = true by kernel_rfl]; simp), ?_⟩)
                            refine wj_t (k := 13) rfl (by kernel_rfl) ?_
                            refine wl_store (vs := [_]) H39 (by repeat constructor) sz23 rfl rfl rfl rfl rfl (by repeat constructor) ?_
                            intro w42 H43 hw42
                            refine wl_nil (tn ⟨fun hlt => absurd hlt (by rw [show allH _ _ _ = true by kernel_rfl]; simp), ?_⟩)
                            refine wj_done (by kernel_rfl) ?_
                            refine wc_region ?_
                            refine wl_v rfl rfl rfl (v_move rfl) ?_
                            refine wl_v rfl rfl rfl (v_addi rfl rfl (by omega)) ?_
                            refine wl_v rfl rfl rfl (v_assign rfl) ?_
                            refine wl_nil ?_
                            rw [← mvs_succ, ← gos_succ] at H43
                            exact ⟨i + 1, (sc rfl (sc rfl (sc rfl (sc rfl (sc rfl (sn _)))))), ⟨by omega, _, _, H43.pm (by repeat constructor)⟩, by omega⟩
                        · refine wl_slit (v := .slice none 0 0) (z := [.slice none 0 0]) (cs := [.slice A8 (goRw p i p.rules.toNat).length c8]) (sz := 1) Hd rfl Try.underlying23 sz39 zv39 (by decide) (by decide) (by kernel_rfl) rfl (by repeat constructor) ?_
                          intro b94 w45 hb94 H45 hs45
                          have HS46 : Holds w [Blk b5 25 [v1, v2], Blk b2 25 [.slice none 0 0, .slice none 0 0], Blk b1 41 [.int .i64 p.kinds, .int .i64 p.rules, .slice a.d p.dflt.length a.kd, .slice a.b p.base.length a.kb, .slice a.c p.check.length a.kc, .slice a.e p.cell.length a.ke, .slice a.gb p.gbase.length a.kgb, .slice a.gc p.gcheck.length a.kgc, .slice a.ge p.gcell.length a.kge]] _ := H45.pm (by repeat constructor)
                          refine wl_nil (tn ⟨fun _ => HS46, ?_⟩)
                          refine wj_t (k := 3) rfl (by kernel_rfl) ?_
                          refine wl_slit (v := .slice none 0 0) (z := [.slice none 0 0]) (cs := [.slice A7 (mvRow p i p.kinds.toNat).length c7]) (sz := 1) H45 rfl Try.underlying22 sz38 zv38 (by decide) (by decide) (by kernel_rfl) rfl (by repeat constructor) ?_
                          intro b89 w47 hb89 H47 hs47
                          have HS48 : Holds w [Blk b5 25 [v1, v2], Blk b2 25 [.slice none 0 0, .slice none 0 0], Blk b1 41 [.int .i64 p.kinds, .int .i64 p.rules, .slice a.d p.dflt.length a.kd, .slice a.b p.base.length a.kb, .slice a.c p.check.length a.kc, .slice a.e p.cell.length a.ke, .slice a.gb p.gbase.length a.kgb, .slice a.gc p.gcheck.length a.kgc, .slice a.ge p.gcell.length a.kge]] _ := H47.pm (by repeat constructor)
                          refine wl_nil (tn ⟨fun _ => HS48, ?_⟩)
                          refine wj_t (k := 4) rfl (by kernel_rfl) ?_
                          refine wl_appRR (f := fMv) (e := 38) (e2 := 48) (v := v1) (u := .slice A7 (mvRow p i p.kinds.toNat).length c7) (xs := mvRow p i p.kinds.toNat) (xss := mvs p i) H47 (by repeat constructor) (by repeat constructor) (H47.at (by repeat constructor) rfl) rfl Try.underlying22 info38 rfl rfl rfl (by rw [mvs_len]; omega) (by decide) ?_
                          intro A90 c90 w49 H49 hs49
                          have HS50 : Holds w [Blk b5 25 [v1, v2], Blk b2 25 [.slice none 0 0, .slice none 0 0], Blk b1 41 [.int .i64 p.kinds, .int .i64 p.rules, .slice a.d p.dflt.length a.kd, .slice a.b p.base.length a.kb, .slice a.c p.check.length a.kc, .slice a.e p.cell.length a.ke, .slice a.gb p.gbase.length a.kgb, .slice a.gc p.gcheck.length a.kgc, .slice a.ge p.gcell.length a.kge]] _ := H49.pm (by repeat constructor)
                          refine wl_nil (tn ⟨fun _ => HS50, ?_⟩)
                          refine wj_v (k := 10) rfl (by kernel_rfl) (fun _ _ _ h => h) HS50 rfl rfl rfl (fun W HW => v_fb (o2 := 0) fa25_0 rfl rfl) ?_
                          refine wj_t (k := 9) rfl (by kernel_rfl) ?_
                          refine wl_appRR (f := fInt .i64) (e := 39) (e2 := 3) (v := v2) (u := .slice A8 (goRw p i p.rules.toNat).length c8) (xs := goRw p i p.rules.toNat) (xss := gos p i) H49 (by repeat constructor) (by repeat constructor) (H49.at (by repeat constructor) rfl) rfl Try.underlying23 info39 rfl rfl rfl (by rw [gos_len]; omega) (by decide) ?_
                          intro A95 c95 w51 H51 hs51
                          have HS52 : Holds w [Blk b5 25 [v1, v2], Blk b2 25 [.slice none 0 0, .slice none 0 0], Blk b1 41 [.int .i64 p.kinds, .int .i64 p.rules, .slice a.d p.dflt.length a.kd, .slice a.b p.base.length a.kb, .slice a.c p.check.length a.kc, .slice a.e p.cell.length a.ke, .slice a.gb p.gbase.length a.kgb, .slice a.gc p.gcheck.length a.kgc, .slice a.ge p.gcell.length a.kge]] _ := H51.pm (by repeat constructor)
                          refine wl_nil (tn ⟨fun _ => HS52, ?_⟩)
                          refine wj_t (k := 11) rfl (by kernel_rfl) ?_
                          refine wl_store (vs := [_]) H51 (by repeat constructor) sz22 rfl rfl rfl rfl rfl (by repeat constructor) ?_
                          intro w53 H54 hw53
                          refine wl_nil (tn ⟨fun hlt => absurd hlt (by rw [show allH _ _ _ = true by kernel_rfl]; simp), ?_⟩)
                          refine wj_t (k := 12) rfl (by kernel_rfl) ?_
                          refine wl_v rfl rfl rfl (v_fb (o2 := 1) fa25_1 rfl rfl) ?_
                          refine wl_nil (tn ⟨fun hlt => absurd hlt (by rw [show allH _ _ _ = true by kernel_rfl]; simp), ?_⟩)
                          refine wj_t (k := 13) rfl (by kernel_rfl) ?_
                          refine wl_store (vs := [_]) H54 (by repeat constructor) sz23 rfl rfl rfl rfl rfl (by repeat constructor) ?_
                          intro w57 H58 hw57
                          refine wl_nil (tn ⟨fun hlt => absurd hlt (by rw [show allH _ _ _ = true by kernel_rfl]; simp), ?_⟩)
                          refine wj_done (by kernel_rfl) ?_
                          refine wc_region ?_
                          refine wl_v rfl rfl rfl (v_move rfl) ?_
                          refine wl_v rfl rfl rfl (v_addi rfl rfl (by omega)) ?_
                          refine wl_v rfl rfl rfl (v_assign rfl) ?_
                          refine wl_nil ?_
                          rw [← mvs_succ, ← gos_succ] at H58
                          exact ⟨i + 1, (sc rfl (sc rfl (sc rfl (sc rfl (sc rfl (sn _)))))), ⟨by omega, _, _, H58.pm (by repeat constructor)⟩, by omega⟩
                  · have c1p := of_decide_eq_false c1
                    have hie : i = p.dflt.length := by omega
                    subst hie
                    obtain ⟨A1, k1, rfl, _⟩ := H.rr (f := fMv) (e := 38) (e2 := 48) (v := v1) (xss := mvs p p.dflt.length) (by repeat constructor)
                    obtain ⟨A2, k2, rfl, _⟩ := H.rr (f := fInt .i64) (e := 39) (e2 := 3) (v := v2) (xss := gos p p.dflt.length) (by repeat constructor)
                    refine wc_exit ?_
                    refine wc_seq ?_
                    refine wc_region ?_
                    refine wl_v rfl rfl rfl (v_loadN agg25 rfl rfl (H.ats (by repeat constructor))) ?_
                    refine wl_store (vs := [_, _]) H (by repeat constructor) sz25 rfl rfl rfl rfl rfl (by repeat constructor) ?_
                    intro w60 H61 hw60
                    refine wl_v rfl rfl rfl (v_assign rfl) ?_
                    refine wl_nil ?_
                    refine wc_ret ?_
                    first
                      | (have hu : UpOk p := ⟨by omega, by omega, by omega, by omega, by omega, by omega, by omega, by omega⟩
                         exact ⟨_, resc2 rfl rfl (run_loadVarN agg25 rfl (H61.ats (by repeat constructor))) rfl, _, _, by rw [(up_t hu).2], by rw [(up_t hu).1]; exact H61.pm (by repeat constructor)⟩)
                      | (have hu : ¬ UpOk p := fun hu => by obtain ⟨u1, u2, u3, u4, u5, u6, u7, u8⟩ := hu; omega
                         exact ⟨_, resc2 rfl rfl (run_loadVarN agg25 rfl (H61.ats (by repeat constructor))) rfl, _, _, by rw [(up_f hu).2], by rw [(up_f hu).1]; exact ((H61.rrNil fMv 38 48).rrNil (fInt .i64) 39 3).pm (by repeat constructor)⟩)
              · have g47p := of_nd_t g47
                refine wl_off rfl rfl g47 rfl ?_
                refine wl_off rfl rfl g47 rfl ?_
                refine wl_off rfl rfl g47 rfl ?_
                refine wl_off rfl rfl g47 rfl ?_
                refine wl_v rfl rfl rfl (v_pick_t rfl g47 rfl) ?_
                refine wl_nil ?_
                refine wc_cond_t rfl ?_
                refine wc_seq ?_
                refine wc_region ?_
                refine wl_v rfl rfl rfl (v_bld ba25 rfl (by repeat constructor)) ?_
                refine wl_store (vs := [_, _]) H4 (by repeat constructor) sz25 rfl rfl rfl rfl rfl (by repeat constructor) ?_
                intro w62 H63 hw62
                refine wl_v rfl rfl rfl (v_assign rfl) ?_
                refine wl_nil ?_
                refine wc_ret ?_
                first
                  | (have hu : UpOk p := ⟨by omega, by omega, by omega, by omega, by omega, by omega, by omega, by omega⟩
                     exact ⟨_, resc2 rfl rfl (run_loadVarN agg25 rfl (H63.ats (by repeat constructor))) rfl, _, _, by rw [(up_t hu).2], by rw [(up_t hu).1]; exact H63.pm (by repeat constructor)⟩)
                  | (have hu : ¬ UpOk p := fun hu => by obtain ⟨u1, u2, u3, u4, u5, u6, u7, u8⟩ := hu; omega
                     exact ⟨_, resc2 rfl rfl (run_loadVarN agg25 rfl (H63.ats (by repeat constructor))) rfl, _, _, by rw [(up_f hu).2], by rw [(up_f hu).1]; exact ((H63.rrNil fMv 38 48).rrNil (fInt .i64) 39 3).pm (by repeat constructor)⟩)
            · have g40p := of_decide_eq_true g40
              refine wl_off rfl rfl g40 rfl ?_
              refine wl_off rfl rfl g40 rfl ?_
              refine wl_off rfl rfl g40 rfl ?_
              refine wl_off rfl rfl g40 rfl ?_
              refine wl_v rfl rfl rfl (v_pick_t rfl g40 rfl) ?_
              refine wl_v rfl rfl rfl (v_move rfl) ?_
              refine wl_off rfl rfl rfl rfl ?_
              refine wl_off rfl rfl rfl rfl ?_
              refine wl_off rfl rfl rfl rfl ?_
              refine wl_off rfl rfl rfl rfl ?_
              refine wl_off rfl rfl rfl rfl ?_
              refine wl_v rfl rfl rfl (v_pick_t rfl rfl rfl) ?_
              refine wl_nil ?_
              refine wc_cond_t rfl ?_
              refine wc_seq ?_
              refine wc_region ?_
              refine wl_v rfl rfl rfl (v_bld ba25 rfl (by repeat constructor)) ?_
              refine wl_store (vs := [_, _]) H4 (by repeat constructor) sz25 rfl rfl rfl rfl rfl (by repeat constructor) ?_
              intro w64 H65 hw64
              refine wl_v rfl rfl rfl (v_assign rfl) ?_
              refine wl_nil ?_
              refine wc_ret ?_
              first
                | (have hu : UpOk p := ⟨by omega, by omega, by omega, by omega, by omega, by omega, by omega, by omega⟩
                   exact ⟨_, resc2 rfl rfl (run_loadVarN agg25 rfl (H65.ats (by repeat constructor))) rfl, _, _, by rw [(up_t hu).2], by rw [(up_t hu).1]; exact H65.pm (by repeat constructor)⟩)
                | (have hu : ¬ UpOk p := fun hu => by obtain ⟨u1, u2, u3, u4, u5, u6, u7, u8⟩ := hu; omega
                   exact ⟨_, resc2 rfl rfl (run_loadVarN agg25 rfl (H65.ats (by repeat constructor))) rfl, _, _, by rw [(up_f hu).2], by rw [(up_f hu).1]; exact ((H65.rrNil fMv 38 48).rrNil (fInt .i64) 39 3).pm (by repeat constructor)⟩)
          · have g35p := of_decide_eq_true g35
            refine wl_off rfl rfl g35 rfl ?_
            refine wl_off rfl rfl g35 rfl ?_
            refine wl_v rfl rfl rfl (v_pick_t rfl g35 rfl) ?_
            refine wl_v rfl rfl rfl (v_move rfl) ?_
            refine wl_off rfl rfl rfl rfl ?_
            refine wl_off rfl rfl rfl rfl ?_
            refine wl_off rfl rfl rfl rfl ?_
            refine wl_off rfl rfl rfl rfl ?_
            refine wl_off rfl rfl rfl rfl ?_
            refine wl_v rfl rfl rfl (v_pick_t rfl rfl rfl) ?_
            refine wl_v rfl rfl rfl (v_move rfl) ?_
            refine wl_off rfl rfl rfl rfl ?_
            refine wl_off rfl rfl rfl rfl ?_
            refine wl_off rfl rfl rfl rfl ?_
            refine wl_off rfl rfl rfl rfl ?_
            refine wl_off rfl rfl rfl rfl ?_
            refine wl_v rfl rfl rfl (v_pick_t rfl rfl rfl) ?_
            refine wl_nil ?_
            refine wc_cond_t rfl ?_
            refine wc_seq ?_
            refine wc_region ?_
            refine wl_v rfl rfl rfl (v_bld ba25 rfl (by repeat constructor)) ?_
            refine wl_store (vs := [_, _]) H4 (by repeat constructor) sz25 rfl rfl rfl rfl rfl (by repeat constructor) ?_
            intro w66 H67 hw66
            refine wl_v rfl rfl rfl (v_assign rfl) ?_
            refine wl_nil ?_
            refine wc_ret ?_
            first
              | (have hu : UpOk p := ⟨by omega, by omega, by omega, by omega, by omega, by omega, by omega, by omega⟩
                 exact ⟨_, resc2 rfl rfl (run_loadVarN agg25 rfl (H67.ats (by repeat constructor))) rfl, _, _, by rw [(up_t hu).2], by rw [(up_t hu).1]; exact H67.pm (by repeat constructor)⟩)
              | (have hu : ¬ UpOk p := fun hu => by obtain ⟨u1, u2, u3, u4, u5, u6, u7, u8⟩ := hu; omega
                 exact ⟨_, resc2 rfl rfl (run_loadVarN agg25 rfl (H67.ats (by repeat constructor))) rfl, _, _, by rw [(up_f hu).2], by rw [(up_f hu).1]; exact ((H67.rrNil fMv 38 48).rrNil (fInt .i64) 39 3).pm (by repeat constructor)⟩)
        · have g30p := of_decide_eq_true g30
          refine wl_off rfl rfl g30 rfl ?_
          refine wl_off rfl rfl g30 rfl ?_
          refine wl_v rfl rfl rfl (v_pick_t rfl g30 rfl) ?_
          refine wl_v rfl rfl rfl (v_move rfl) ?_
          refine wl_off rfl rfl rfl rfl ?_
          refine wl_off rfl rfl rfl rfl ?_
          refine wl_off rfl rfl rfl rfl ?_
          refine wl_v rfl rfl rfl (v_pick_t rfl rfl rfl) ?_
          refine wl_v rfl rfl rfl (v_move rfl) ?_
          refine wl_off rfl rfl rfl rfl ?_
          refine wl_off rfl rfl rfl rfl ?_
          refine wl_off rfl rfl rfl rfl ?_
          refine wl_off rfl rfl rfl rfl ?_
          refine wl_off rfl rfl rfl rfl ?_
          refine wl_v rfl rfl rfl (v_pick_t rfl rfl rfl) ?_
          refine wl_v rfl rfl rfl (v_move rfl) ?_
          refine wl_off rfl rfl rfl rfl ?_
          refine wl_off rfl rfl rfl rfl ?_
          refine wl_off rfl rfl rfl rfl ?_
          refine wl_off rfl rfl rfl rfl ?_
          refine wl_off rfl rfl rfl rfl ?_
          refine wl_v rfl rfl rfl (v_pick_t rfl rfl rfl) ?_
          refine wl_nil ?_
          refine wc_cond_t rfl ?_
          refine wc_seq ?_
          refine wc_region ?_
          refine wl_v rfl rfl rfl (v_bld ba25 rfl (by repeat constructor)) ?_
          refine wl_store (vs := [_, _]) H4 (by repeat constructor) sz25 rfl rfl rfl rfl rfl (by repeat constructor) ?_
          intro w68 H69 hw68
          refine wl_v rfl rfl rfl (v_assign rfl) ?_
          refine wl_nil ?_
          refine wc_ret ?_
          first
            | (have hu : UpOk p := ⟨by omega, by omega, by omega, by omega, by omega, by omega, by omega, by omega⟩
               exact ⟨_, resc2 rfl rfl (run_loadVarN agg25 rfl (H69.ats (by repeat constructor))) rfl, _, _, by rw [(up_t hu).2], by rw [(up_t hu).1]; exact H69.pm (by repeat constructor)⟩)
            | (have hu : ¬ UpOk p := fun hu => by obtain ⟨u1, u2, u3, u4, u5, u6, u7, u8⟩ := hu; omega
               exact ⟨_, resc2 rfl rfl (run_loadVarN agg25 rfl (H69.ats (by repeat constructor))) rfl, _, _, by rw [(up_f hu).2], by rw [(up_f hu).1]; exact ((H69.rrNil fMv 38 48).rrNil (fInt .i64) 39 3).pm (by repeat constructor)⟩)
      · have g25p := of_decide_eq_true g25
        refine wl_off rfl rfl g25 rfl ?_
        refine wl_off rfl rfl g25 rfl ?_
        refine wl_v rfl rfl rfl (v_pick_t rfl g25 rfl) ?_
        refine wl_v rfl rfl rfl (v_move rfl) ?_
        refine wl_off rfl rfl rfl rfl ?_
        refine wl_off rfl rfl rfl rfl ?_
        refine wl_off rfl rfl rfl rfl ?_
        refine wl_v rfl rfl rfl (v_pick_t rfl rfl rfl) ?_
        refine wl_v rfl rfl rfl (v_move rfl) ?_
        refine wl_off rfl rfl rfl rfl ?_
        refine wl_off rfl rfl rfl rfl ?_
        refine wl_off rfl rfl rfl rfl ?_
        refine wl_v rfl rfl rfl (v_pick_t rfl rfl rfl) ?_
        refine wl_v rfl rfl rfl (v_move rfl) ?_
        refine wl_off rfl rfl rfl rfl ?_
        refine wl_off rfl rfl rfl rfl ?_
        refine wl_off rfl rfl rfl rfl ?_
        refine wl_off rfl rfl rfl rfl ?_
        refine wl_off rfl rfl rfl rfl ?_
        refine wl_v rfl rfl rfl (v_pick_t rfl rfl rfl) ?_
        refine wl_v rfl rfl rfl (v_move rfl) ?_
        refine wl_off rfl rfl rfl rfl ?_
        refine wl_off rfl rfl rfl rfl ?_
        refine wl_off rfl rfl rfl rfl ?_
        refine wl_off rfl rfl rfl rfl ?_
        refine wl_off rfl rfl rfl rfl ?_
        refine wl_v rfl rfl rfl (v_pick_t rfl rfl rfl) ?_
        refine wl_nil ?_
        refine wc_cond_t rfl ?_
        refine wc_seq ?_
        refine wc_region ?_
        refine wl_v rfl rfl rfl (v_bld ba25 rfl (by repeat constructor)) ?_
        refine wl_store (vs := [_, _]) H4 (by repeat constructor) sz25 rfl rfl rfl rfl rfl (by repeat constructor) ?_
        intro w70 H71 hw70
        refine wl_v rfl rfl rfl (v_assign rfl) ?_
        refine wl_nil ?_
        refine wc_ret ?_
        first
          | (have hu : UpOk p := ⟨by omega, by omega, by omega, by omega, by omega, by omega, by omega, by omega⟩
             exact ⟨_, resc2 rfl rfl (run_loadVarN agg25 rfl (H71.ats (by repeat constructor))) rfl, _, _, by rw [(up_t hu).2], by rw [(up_t hu).1]; exact H71.pm (by repeat constructor)⟩)
          | (have hu : ¬ UpOk p := fun hu => by obtain ⟨u1, u2, u3, u4, u5, u6, u7, u8⟩ := hu; omega
             exact ⟨_, resc2 rfl rfl (run_loadVarN agg25 rfl (H71.ats (by repeat constructor))) rfl, _, _, by rw [(up_f hu).2], by rw [(up_f hu).1]; exact ((H71.rrNil fMv 38 48).rrNil (fInt .i64) 39 3).pm (by repeat constructor)⟩)
    · have g20p := of_decide_eq_true g20
      refine wl_off rfl rfl g20 rfl ?_
      refine wl_off rfl rfl g20 rfl ?_
      refine wl_v rfl rfl rfl (v_pick_t rfl g20 rfl) ?_
      refine wl_v rfl rfl rfl (v_move rfl) ?_
      refine wl_off rfl rfl rfl rfl ?_
      refine wl_off rfl rfl rfl rfl ?_
      refine wl_off rfl rfl rfl rfl ?_
      refine wl_v rfl rfl rfl (v_pick_t rfl rfl rfl) ?_
      refine wl_v rfl rfl rfl (v_move rfl) ?_
      refine wl_off rfl rfl rfl rfl ?_
      refine wl_off rfl rfl rfl rfl ?_
      refine wl_off rfl rfl rfl rfl ?_
      refine wl_v rfl rfl rfl (v_pick_t rfl rfl rfl) ?_
      refine wl_v rfl rfl rfl (v_move rfl) ?_
      refine wl_off rfl rfl rfl rfl ?_
      refine wl_off rfl rfl rfl rfl ?_
      refine wl_off rfl rfl rfl rfl ?_
      refine wl_v rfl rfl rfl (v_pick_t rfl rfl rfl) ?_
      refine wl_v rfl rfl rfl (v_move rfl) ?_
      refine wl_off rfl rfl rfl rfl ?_
      refine wl_off rfl rfl rfl rfl ?_
      refine wl_off rfl rfl rfl rfl ?_
      refine wl_off rfl rfl rfl rfl ?_
      refine wl_off rfl rfl rfl rfl ?_
      refine wl_v rfl rfl rfl (v_pick_t rfl rfl rfl) ?_
      refine wl_v rfl rfl rfl (v_move rfl) ?_
      refine wl_off rfl rfl rfl rfl ?_
      refine wl_off rfl rfl rfl rfl ?_
      refine wl_off rfl rfl rfl rfl ?_
      refine wl_off rfl rfl rfl rfl ?_
      refine wl_off rfl rfl rfl rfl ?_
      refine wl_v rfl rfl rfl (v_pick_t rfl rfl rfl) ?_
      refine wl_nil ?_
      refine wc_cond_t rfl ?_
      refine wc_seq ?_
      refine wc_region ?_
      refine wl_v rfl rfl rfl (v_bld ba25 rfl (by repeat constructor)) ?_
      refine wl_store (vs := [_, _]) H4 (by repeat constructor) sz25 rfl rfl rfl rfl rfl (by repeat constructor) ?_
      intro w72 H73 hw72
      refine wl_v rfl rfl rfl (v_assign rfl) ?_
      refine wl_nil ?_
      refine wc_ret ?_
      first
        | (have hu : UpOk p := ⟨by omega, by omega, by omega, by omega, by omega, by omega, by omega, by omega⟩
           exact ⟨_, resc2 rfl rfl (run_loadVarN agg25 rfl (H73.ats (by repeat constructor))) rfl, _, _, by rw [(up_t hu).2], by rw [(up_t hu).1]; exact H73.pm (by repeat constructor)⟩)
        | (have hu : ¬ UpOk p := fun hu => by obtain ⟨u1, u2, u3, u4, u5, u6, u7, u8⟩ := hu; omega
           exact ⟨_, resc2 rfl rfl (run_loadVarN agg25 rfl (H73.ats (by repeat constructor))) rfl, _, _, by rw [(up_f hu).2], by rw [(up_f hu).1]; exact ((H73.rrNil fMv 38 48).rrNil (fInt .i64) 39 3).pm (by repeat constructor)⟩)
  · have g16p := of_decide_eq_true g16
    refine wl_off rfl rfl g16 rfl ?_
    refine wl_v rfl rfl rfl (v_pick_t rfl g16 rfl) ?_
    refine wl_v rfl rfl rfl (v_move rfl) ?_
    refine wl_off rfl rfl rfl rfl ?_
    refine wl_off rfl rfl rfl rfl ?_
    refine wl_off rfl rfl rfl rfl ?_
    refine wl_v rfl rfl rfl (v_pick_t rfl rfl rfl) ?_
    refine wl_v rfl rfl rfl (v_move rfl) ?_
    refine wl_off rfl rfl rfl rfl ?_
    refine wl_off rfl rfl rfl rfl ?_
    refine wl_off rfl rfl rfl rfl ?_
    refine wl_v rfl rfl rfl (v_pick_t rfl rfl rfl) ?_
    refine wl_v rfl rfl rfl (v_move rfl) ?_
    refine wl_off rfl rfl rfl rfl ?_
    refine wl_off rfl rfl rfl rfl ?_
    refine wl_off rfl rfl rfl rfl ?_
    refine wl_v rfl rfl rfl (v_pick_t rfl rfl rfl) ?_
    refine wl_v rfl rfl rfl (v_move rfl) ?_
    refine wl_off rfl rfl rfl rfl ?_
    refine wl_off rfl rfl rfl rfl ?_
    refine wl_off rfl rfl rfl rfl ?_
    refine wl_v rfl rfl rfl (v_pick_t rfl rfl rfl) ?_
    refine wl_v rfl rfl rfl (v_move rfl) ?_
    refine wl_off rfl rfl rfl rfl ?_
    refine wl_off rfl rfl rfl rfl ?_
    refine wl_off rfl rfl rfl rfl ?_
    refine wl_off rfl rfl rfl rfl ?_
    refine wl_off rfl rfl rfl rfl ?_
    refine wl_v rfl rfl rfl (v_pick_t rfl rfl rfl) ?_
    refine wl_v rfl rfl rfl (v_move rfl) ?_
    refine wl_off rfl rfl rfl rfl ?_
    refine wl_off rfl rfl rfl rfl ?_
    refine wl_off rfl rfl rfl rfl ?_
    refine wl_off rfl rfl rfl rfl ?_
    refine wl_off rfl rfl rfl rfl ?_
    refine wl_v rfl rfl rfl (v_pick_t rfl rfl rfl) ?_
    refine wl_nil ?_
    refine wc_cond_t rfl ?_
    refine wc_seq ?_
    refine wc_region ?_
    refine wl_v rfl rfl rfl (v_bld ba25 rfl (by repeat constructor)) ?_
    refine wl_store (vs := [_, _]) H4 (by repeat constructor) sz25 rfl rfl rfl rfl rfl (by repeat constructor) ?_
    intro w74 H75 hw74
    refine wl_v rfl rfl rfl (v_assign rfl) ?_
    refine wl_nil ?_
    refine wc_ret ?_
    first
      | (have hu : UpOk p := ⟨by omega, by omega, by omega, by omega, by omega, by omega, by omega, by omega⟩
         exact ⟨_, resc2 rfl rfl (run_loadVarN agg25 rfl (H75.ats (by repeat constructor))) rfl, _, _, by rw [(up_t hu).2], by rw [(up_t hu).1]; exact H75.pm (by repeat constructor)⟩)
      | (have hu : ¬ UpOk p := fun hu => by obtain ⟨u1, u2, u3, u4, u5, u6, u7, u8⟩ := hu; omega
         exact ⟨_, resc2 rfl rfl (run_loadVarN agg25 rfl (H75.ats (by repeat constructor))) rfl, _, _, by rw [(up_f hu).2], by rw [(up_f hu).1]; exact ((H75.rrNil fMv 38 48).rrNil (fInt .i64) 39 3).pm (by repeat constructor)⟩)
end Go.Proofs.Ytkpehkadammppaa.UnpW
