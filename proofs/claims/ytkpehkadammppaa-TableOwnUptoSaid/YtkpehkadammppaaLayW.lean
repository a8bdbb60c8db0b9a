/- How the document lays rows. -/
import Derived.Test.YtkpehkadammppaaProg
import Derived.Test.YtkpehkadammppaaOrdW
set_option linter.unusedVariables false
set_option linter.unusedSimpArgs false
namespace Go.Proofs.Ytkpehkadammppaa.LayW
open Go Go.RowKit Go.Proofs.YtkpehkadammppaaFx Go.Proofs.Ytkpehkadammppaa.Free Go.Proofs.Ytkpehkadammppaa.OrdW
theorem en59 : Enters Try.prog 59 := enters Try.func59 (by kernel_rfl) rfl
theorem en60 : Enters Try.prog 60 := enters Try.func60 (by kernel_rfl) rfl
theorem fa93_0 : FieldAt Try.prog 93 0 0 := field_at (sz := 0) Try.underlying93 rfl (by kernel_rfl) rfl
theorem info3 : (Try.prog.info? 3).map (fun i => (i.zero, i.size, i.bytes)) = some (some (.int .i64 0), 1, 8) := by kernel_rfl
theorem one3 : One Try.prog 3 := one_of Try.underlying3 rfl (by kernel_rfl)
theorem one91 : One Try.prog 91 := one_of Try.underlying91 rfl (by kernel_rfl)
theorem sz3 : ∀ W, (sizeOf 3).run Try.prog W = .ok 1 W := size_of (by kernel_rfl)
theorem sz91 : ∀ W, (sizeOf 91).run Try.prog W = .ok 1 W := size_of (by kernel_rfl)
theorem sz93 : ∀ W, (sizeOf 93).run Try.prog W = .ok 4 W := size_of (by kernel_rfl)
theorem zv3 : ∀ W, (zeroValue 3).run Try.prog W = .ok (.int .i64 0) W := zero_of (by kernel_rfl)

set_option maxRecDepth 100000 in
theorem lay_calls {A : Option Addr} {ca : Nat} {rows : List (List En)} {least : Int} {w : World} {M : Nat} (hR : Rd fEn.kn.sl w A rows) (hM : ∀ r ∈ atss rows, ∀ k ∈ r, 0 ≤ k ∧ k < M) (hW : ∀ r ∈ rows, r.length ≤ 1099511627776) (hn : rows.length * M ≤ 1099511627776) (hn2 : rows.length ≤ 1099511627776) (hM2 : M ≤ 1099511627776) (hl : least ≤ 1099511627776) :
    Calls Try.prog 42 #[.slice A rows.length ca, .int .i64 least] w fun e w' => ∃ v, e = .returned v ∧ ∃ A1 c1 A2 c2, v = .tuple #[.slice A1 (laidF (atss rows) (ordF (atss rows)) least).1.length c1, .slice A2 (laidF (atss rows) (ordF (atss rows)) least).2.length c2] ∧ Holds w [Row (fInt .i64) 3 (.slice A1 (laidF (atss rows) (ordF (atss rows)) least).1.length c1) (laidF (atss rows) (ordF (atss rows)) least).1, Row (fInt .i64) 3 (.slice A2 (laidF (atss rows) (ordF (atss rows)) least).2.length c2) (laidF (atss rows) (ordF (atss rows)) least).2] w' := by
  have hol := ordE_len rows
  refine calls_of Try.func42 rfl Try.ntmps42 rfl ?_
  have H := Holds.start w
  refine wc_seq ?_
  refine wc_region ?_
  refine wl_v rfl rfl rfl (v_assign rfl) ?_
  refine wl_v rfl rfl rfl (v_assign rfl) ?_
  refine wl_nil ?_
  refine wc_seq ?_
  refine wc_region ?_
  refine wl_v rfl rfl rfl (v_move rfl) ?_
  refine wl_v rfl rfl rfl (v_len Try.underlying90 rfl) ?_
  refine wl_make (f := fInt .i64) (z' := 0) H rfl Try.underlying39 info3 rfl (by decide) rfl rfl (by omega) (by omega) (by decide) ?_
  intro A6 w1 H1 hs1
  rw [Int.toNat_natCast] at H1 ⊢
  refine wl_v rfl rfl rfl (v_assign rfl) ?_
  refine wl_nil ?_
  refine wc_seq ?_
  refine wc_region ?_
  refine wl_v rfl rfl rfl (v_assign rfl) ?_
  refine wl_nil ?_
  refine wc_seq ?_
  refine wc_seq ?_
  refine wc_region ?_
  refine wl_v rfl rfl rfl (v_assign rfl) ?_
  refine wl_nil ?_
  refine wc_block ?_
  refine wc_loop (σ := Nat × Option Addr × Nat) (fun s => [(0, .slice A rows.length ca), (1, .int .i64 least), (6, .slice A6 rows.length rows.length), (7, .slice s.2.1 (List.replicate s.1 (-1 : Int)).length s.2.2), (8, .int .i64 s.1)]) (fun s W => (s.1 = 0 ∨ (s.1 : Int) ≤ least) ∧ Holds w [Row (fInt .i64) 3 (.slice s.2.1 (List.replicate s.1 (-1 : Int)).length s.2.2) (List.replicate s.1 (-1)), Row (fInt .i64) 3 (.slice A6 rows.length rows.length) (List.replicate rows.length 0)] W) (fun s => least.toNat - s.1) (0, none, 0) (sc rfl (sc rfl (sc rfl (sc rfl (sc rfl (sn _)))))) ⟨.inl rfl, H1.nilrow 3 1⟩ ?_
  rintro ⟨q, A7, c7⟩ W0 ⟨hq, H⟩
  dsimp only at hq H ⊢
  have hrl := List.length_replicate (n := q) (a := (-1 : Int))
  refine wc_seq ?_
  refine wc_seq ?_
  refine wc_region ?_
  refine wl_v rfl rfl rfl (v_move rfl) ?_
  refine wl_v rfl rfl rfl (v_move rfl) ?_
  refine wl_v rfl rfl rfl (v_lss rfl rfl) ?_
  refine wl_nil ?_
  refine wc_cond rfl (fun c0 => ?_) (fun c0 => ?_)
  · have c0p := of_decide_eq_true c0
    refine wc_skip ?_
    refine wc_seq ?_
    refine wc_block ?_
    refine wc_region ?_
    refine wl_v rfl rfl rfl (v_move rfl) ?_
    refine wl_slit (v := .int .i64 0) (z := [.int .i64 0]) (cs := [.int .i64 (-1)]) (sz := 1) H rfl Try.underlying39 sz3 zv3 (by decide) (by decide) (by kernel_rfl) rfl (by repeat constructor) ?_
    intro b23 w2 hb23 H2 hs2
    refine wl_app1 (f := fInt .i64) (xs := List.replicate q (-1)) (y' := -1) H2 (fun v' => (by repeat constructor)) (by repeat constructor) rfl Try.underlying39 info3 rfl (by decide) rfl rfl rfl (by omega) (by decide) ?_
    intro A24 c24 w3 H3 hs3
    refine wl_v rfl rfl rfl (v_assign rfl) ?_
    refine wl_nil ?_
    refine wc_region ?_
    refine wl_v rfl rfl rfl (v_move rfl) ?_
    refine wl_v rfl rfl rfl (v_addi rfl rfl (by omega)) ?_
    refine wl_v rfl rfl rfl (v_assign rfl) ?_
    refine wl_nil ?_
    exact ⟨(q + 1, A24, c24), by rw [List.replicate_succ']; exact (sc rfl (sc rfl (sc rfl (sc rfl (sc rfl (sn _)))))), ⟨.inr (by dsimp only; omega), by rw [List.replicate_succ']; exact H3.pm (by repeat constructor)⟩, by dsimp only; omega⟩
  · have c0p := of_decide_eq_false c0
    have hqe : q = least.toNat := by omega
    refine wc_exit ?_
    refine wc_seq ?_
    refine wc_region ?_
    refine wl_v rfl rfl rfl (v_move rfl) ?_
    refine wl_call en59 rfl rfl (order_calls (hR.below H.old) hW hn2) ?_
    rintro _ w4 ⟨A9, c9, rfl, Hc⟩
    have H5 := H.call Hc
    refine wl_v rfl rfl rfl (v_assign rfl) ?_
    refine wl_nil ?_
    refine wc_seq ?_
    refine wc_seq ?_
    refine wc_region ?_
    refine wl_v rfl rfl rfl (v_assign rfl) ?_
    refine wl_nil ?_
    refine wc_block ?_
    refine wc_loop (σ := Nat × Option Addr × Nat) (fun s => [(0, .slice A rows.length ca), (1, .int .i64 least), (6, .slice A6 rows.length rows.length), (7, .slice s.2.1 ((stE rows least s.1).2).length s.2.2), (9, .slice A9 (ordF (atss rows)).length c9), (10, .int .i64 s.1)]) (fun s W => s.1 ≤ rows.length ∧ Holds w [Row (fInt .i64) 3 (.slice s.2.1 ((stE rows least s.1).2).length s.2.2) ((stE rows least s.1).2), Row (fInt .i64) 3 (.slice A6 rows.length rows.length) ((stE rows least s.1).1), Row (fInt .i64) 3 (.slice A9 (ordF (atss rows)).length c9) (ordF (atss rows))] W) (fun s => rows.length - s.1) (0, A7, c7) (by rw [stE_zero, ← hqe]; exact (sc rfl (sc rfl (sc rfl (sc rfl (sc rfl (sc rfl (sn _)))))))) ⟨Nat.zero_le _, by rw [stE_zero, ← hqe]; exact H5.pm (by repeat constructor)⟩ ?_
    rintro ⟨i, A7, c7⟩ W1 ⟨hi, H⟩
    dsimp only at hi H ⊢
    obtain ⟨hbl0, hcl⟩ := stE_len (least := least) hM hi
    have hiM : i * M ≤ rows.length * M := Nat.mul_le_mul_right _ hi
    refine wc_seq ?_
    refine wc_seq ?_
    refine wc_region ?_
    refine wl_v rfl rfl rfl (v_move rfl) ?_
    refine wl_v rfl rfl rfl (v_move rfl) ?_
    refine wl_v rfl rfl rfl (v_len Try.underlying39 rfl) ?_
    refine wl_v rfl rfl rfl (v_lss rfl rfl) ?_
    refine wl_nil ?_
    refine wc_cond rfl (fun c1 => ?_) (fun c1 => ?_)
    · have c1p := of_decide_eq_true c1
      have hrow1 := H.rrd (f := fInt .i64) (e := 3) (A := A9) (xs := (ordF (atss rows))) (by repeat constructor)
      have hrad1 : 0 < (ordF (atss rows)).length → A9 = some (adr A9) := fun h => hrow1.ad h
      have hS := ordE_mem (getD_mem (z := 0) (show i < (ordF (atss rows)).length by omega))
      have hSn : ((ordF (atss rows)).getD i 0).toNat < rows.length := by omega
      have hrl := hW (rows.getD ((ordF (atss rows)).getD i 0).toNat []) (getD_mem hSn)
      have hal : (ats (rows.getD ((ordF (atss rows)).getD i 0).toNat [])).length = (rows.getD ((ordF (atss rows)).getD i 0).toNat []).length := List.length_map ..
      have hk0 : ∀ k ∈ (ats (rows.getD ((ordF (atss rows)).getD i 0).toNat [])), 0 ≤ k := fun k hk => (hM _ (ats_mem hSn) k hk).1
      have hrowb := H.rrd (f := fInt .i64) (e := 3) (A := A6) (xs := (stE rows least i).1) (by repeat constructor)
      have hradb : 0 < rows.length → A6 = some (adr A6) := fun h => hrowb.ad (by omega)
      refine wc_skip ?_
      refine wc_seq ?_
      refine wc_block ?_
      refine wc_seq ?_
      refine wc_region ?_
      refine wl_v rfl rfl rfl (v_move rfl) ?_
      refine wl_v rfl rfl rfl (v_move rfl) ?_
      refine wl_v rfl rfl rfl (v_idx Try.underlying39 sz3 hrad1 rfl rfl (by omega) (by omega)) ?_
      refine wl_v rfl rfl rfl (v_load one3 rfl (hrow1.at1N (i := i) (by omega))) ?_
      refine wl_v rfl rfl rfl (v_assign rfl) ?_
      refine wl_nil ?_
      refine wc_seq ?_
      refine wc_seq ?_
      refine wc_region ?_
      refine wl_v rfl rfl rfl (v_move rfl) ?_
      refine wl_v rfl rfl rfl (v_move rfl) ?_
      refine wl_v rfl rfl rfl (v_idx Try.underlying90 sz91 hR.ad rfl rfl (by omega) (by omega)) ?_
      obtain ⟨B40, cp40, hc40, hl40, hr40⟩ := hR.atSl (i := ((ordF (atss rows)).getD i 0)) (by omega) (by omega)
      refine wl_v rfl rfl rfl (v_load one91 rfl (H.cell (hc40))) ?_
      refine wl_v rfl rfl rfl (v_len Try.underlying91 rfl) ?_
      refine wl_v rfl rfl rfl (v_eql rfl rfl) ?_
      refine wl_nil ?_
      refine wc_cond rfl (fun c2 => ?_) (fun c2 => ?_)
      · have c2p := of_decide_eq_true c2
        refine wc_exit ?_
        refine wc_region ?_
        refine wl_v rfl rfl rfl (v_move rfl) ?_
        refine wl_v rfl rfl rfl (v_addi rfl rfl (by omega)) ?_
        refine wl_v rfl rfl rfl (v_assign rfl) ?_
        refine wl_nil ?_
        first
          | exact ⟨(i + 1, A7, c7), by rw [stE_skip (by omega) (by omega)]; exact (sc rfl (sc rfl (sc rfl (sc rfl (sc rfl (sc rfl (sn _))))))), ⟨by dsimp only; omega, by rw [stE_skip (by omega) (by omega)]; exact H.pm (by repeat constructor)⟩, by dsimp only; omega⟩
          | exact ⟨(i + 1, A7, c7), by rw [stE_succ (by omega) (by omega) hbf, ← hje]; exact (sc rfl (sc rfl (sc rfl (sc rfl (sc rfl (sc rfl (sn _))))))), ⟨by dsimp only; omega, by rw [stE_succ (by omega) (by omega) hbf, ← hje]; exact H.pm (by repeat constructor)⟩, by dsimp only; omega⟩
      · have c2p := of_decide_eq_false c2
        refine wc_skip ?_
        refine wc_seq ?_
        refine wc_region ?_
        refine wl_v rfl rfl rfl (v_assign rfl) ?_
        refine wl_nil ?_
        refine wc_seq ?_
        refine wc_block ?_
        refine wc_loop (σ := Nat) (fun s => [(0, .slice A rows.length ca), (1, .int .i64 least), (6, .slice A6 rows.length rows.length), (7, .slice A7 ((stE rows least i).2).length c7), (9, .slice A9 (ordF (atss rows)).length c9), (10, .int .i64 i), (11, .int .i64 ((ordF (atss rows)).getD i 0)), (12, .int .i64 s)]) (fun s W => s ≤ (stE rows least i).2.length ∧ (∀ b', b' < s → freeB (stE rows least i).2 (ats (rows.getD ((ordF (atss rows)).getD i 0).toNat [])) (b' : Int) = false) ∧ Holds w [Row (fInt .i64) 3 (.slice A7 ((stE rows least i).2).length c7) ((stE rows least i).2), Row (fInt .i64) 3 (.slice A6 rows.length rows.length) ((stE rows least i).1), Row (fInt .i64) 3 (.slice A9 (ordF (atss rows)).length c9) (ordF (atss rows))] W) (fun s => (stE rows least i).2.length + 1 - s) 0 (sc rfl (sc rfl (sc rfl (sc rfl (sc rfl (sc rfl (sc rfl (sc rfl (sn _))))))))) ⟨Nat.zero_le _, upto_zero, H.pm (by repeat constructor)⟩ ?_
        rintro b W2 ⟨hb, hlow, H⟩
        refine wc_seq ?_
        refine wc_seq ?_
        refine wc_region ?_
        refine wl_v rfl rfl rfl (v_move rfl) ?_
        refine wl_v rfl rfl rfl (v_move rfl) ?_
        refine wl_v rfl rfl rfl (v_move rfl) ?_
        refine wl_v rfl rfl rfl (v_idx Try.underlying90 sz91 hR.ad rfl rfl (by omega) (by omega)) ?_
        obtain ⟨B47, cp47, hc47, hl47, hr47⟩ := hR.atSl (i := ((ordF (atss rows)).getD i 0)) (by omega) (by omega)
        refine wl_v rfl rfl rfl (v_load one91 rfl (H.cell (hc47))) ?_
        refine wl_v rfl rfl rfl (v_move rfl) ?_
        refine wl_call en60 rfl rfl (rfree_calls (H.rrd (f := fInt .i64) (e := 3) (A := A7) (xs := (stE rows least i).2) (by repeat constructor)) (hr47.below H.old) (by unfold maxLen; omega) (by unfold maxLen; omega) (by omega) (fun k hk => by have := hM _ (ats_mem hSn) k hk; omega)) ?_
        rintro _ w6 ⟨rfl, Hc⟩
        have H7 := H.call Hc
        refine wl_v rfl rfl rfl (v_not rfl) ?_
        refine wl_nil ?_
        refine wc_cond rfl (fun c3 => ?_) (fun c3 => ?_)
        · have c3p := of_n_t c3
          refine wc_skip ?_
          refine wc_block ?_
          refine wc_region ?_
          refine wl_v rfl rfl rfl (v_move rfl) ?_
          refine wl_v rfl rfl rfl (v_addi rfl rfl (by omega)) ?_
          refine wl_v rfl rfl rfl (v_assign rfl) ?_
          refine wl_nil ?_
          have hbl : (b : Int) < (stE rows least i).2.length := by
            rcases (by omega : (b : Int) < (stE rows least i).2.length ∨ ((stE rows least i).2.length : Int) ≤ b) with h | h
            · exact h
            · rw [freeB_end h hk0] at c3p; exact absurd c3p (by simp)
          exact ⟨b + 1, (sc rfl (sc rfl (sc rfl (sc rfl (sc rfl (sc rfl (sc rfl (sc rfl (sn _))))))))), ⟨by omega, upto_succ hlow c3p, H7.pm (by repeat constructor)⟩, by omega⟩
        · have c3p := of_n_f c3
          have hbf := firstFree_is hlow c3p hb
          refine wc_exit ?_
          refine wc_seq ?_
          refine wc_region ?_
          refine wl_v rfl rfl rfl (v_move rfl) ?_
          refine wl_v rfl rfl rfl (v_move rfl) ?_
          refine wl_v rfl rfl rfl (v_move rfl) ?_
          refine wl_v rfl rfl rfl (v_idx Try.underlying39 sz3 hradb rfl rfl (by omega) (by omega)) ?_
          refine wl_storeR (f := fInt .i64) (xs := (stE rows least i).1) (i := ((ordF (atss rows)).getD i 0)) (x' := (b : Int)) H7 (by repeat constructor) sz3 rfl rfl rfl (by omega) (by omega) ?_
          intro w8 H8
          refine wl_nil ?_
          refine wc_seq ?_
          refine wc_region ?_
          refine wl_v rfl rfl rfl (v_assign rfl) ?_
          refine wl_nil ?_
          refine wc_block ?_
          refine wc_loop (σ := Nat × Option Addr × Nat) (fun s => [(0, .slice A rows.length ca), (1, .int .i64 least), (6, .slice A6 rows.length rows.length), (7, .slice s.2.1 (putsN (stE rows least i).2 (ats (rows.getD ((ordF (atss rows)).getD i 0).toNat [])) b ((ordF (atss rows)).getD i 0) s.1).length s.2.2), (9, .slice A9 (ordF (atss rows)).length c9), (10, .int .i64 i), (11, .int .i64 ((ordF (atss rows)).getD i 0)), (12, .int .i64 b), (13, .int .i64 s.1)]) (fun s W => s.1 ≤ (rows.getD ((ordF (atss rows)).getD i 0).toNat []).length ∧ (putsN (stE rows least i).2 (ats (rows.getD ((ordF (atss rows)).getD i 0).toNat [])) b ((ordF (atss rows)).getD i 0) s.1).length ≤ (stE rows least i).2.length + M ∧ Holds w [Row (fInt .i64) 3 (.slice s.2.1 (putsN (stE rows least i).2 (ats (rows.getD ((ordF (atss rows)).getD i 0).toNat [])) b ((ordF (atss rows)).getD i 0) s.1).length s.2.2) (putsN (stE rows least i).2 (ats (rows.getD ((ordF (atss rows)).getD i 0).toNat [])) b ((ordF (atss rows)).getD i 0) s.1), Row (fInt .i64) 3 (.slice A6 rows.length rows.length) ((stE rows least i).1.set ((ordF (atss rows)).getD i 0).toNat b), Row (fInt .i64) 3 (.slice A9 (ordF (atss rows)).length c9) (ordF (atss rows))] W) (fun s => (rows.getD ((ordF (atss rows)).getD i 0).toNat []).length - s.1) (0, A7, c7) (sc rfl (sc rfl (sc rfl (sc rfl (sc rfl (sc rfl (sc rfl (sc rfl (sc rfl (sn _)))))))))) ⟨Nat.zero_le _, Nat.le_add_right _ _, H8.pm (by repeat constructor)⟩ ?_
          rintro ⟨j, A7, c7⟩ W3 ⟨hj, hpl, H⟩
          dsimp only at hj hpl H ⊢
          refine wc_seq ?_
          refine wc_seq ?_
          refine wc_region ?_
          refine wl_v rfl rfl rfl (v_move rfl) ?_
          refine wl_v rfl rfl rfl (v_move rfl) ?_
          refine wl_v rfl rfl rfl (v_move rfl) ?_
          refine wl_v rfl rfl rfl (v_idx Try.underlying90 sz91 hR.ad rfl rfl (by omega) (by omega)) ?_
          obtain ⟨B61, cp61, hc61, hl61, hr61⟩ := hR.atSl (i := ((ordF (atss rows)).getD i 0)) (by omega) (by omega)
          refine wl_v rfl rfl rfl (v_load one91 rfl (H.cell (hc61))) ?_
          refine wl_v rfl rfl rfl (v_len Try.underlying91 rfl) ?_
          refine wl_v rfl rfl rfl (v_lss rfl rfl) ?_
          refine wl_nil ?_
          refine wc_cond rfl (fun c4 => ?_) (fun c4 => ?_)
          · have c4p := of_decide_eq_true c4
            have hkj := hM _ (ats_mem hSn) ((ats (rows.getD ((ordF (atss rows)).getD i 0).toNat [])).getD j 0) (getD_mem (by omega))
            rw [ats_get] at hkj
            refine wc_skip ?_
            refine wc_seq ?_
            refine wc_block ?_
            refine wc_seq ?_
            refine wc_block ?_
            refine wc_loop (σ := Nat × Option Addr × Nat) (fun s => [(0, .slice A rows.length ca), (1, .int .i64 least), (6, .slice A6 rows.length rows.length), (7, .slice s.2.1 ((padN (putsN (stE rows least i).2 (ats (rows.getD ((ordF (atss rows)).getD i 0).toNat [])) b ((ordF (atss rows)).getD i 0) j) s.1)).length s.2.2), (9, .slice A9 (ordF (atss rows)).length c9), (10, .int .i64 i), (11, .int .i64 ((ordF (atss rows)).getD i 0)), (12, .int .i64 b), (13, .int .i64 j)]) (fun s W => (s.1 = 0 ∨ (putsN (stE rows least i).2 (ats (rows.getD ((ordF (atss rows)).getD i 0).toNat [])) b ((ordF (atss rows)).getD i 0) j).length + s.1 ≤ ((b : Int) + ((rows.getD ((ordF (atss rows)).getD i 0).toNat []).getD j enZ).at_).toNat + 1) ∧ Holds w [Row (fInt .i64) 3 (.slice s.2.1 ((padN (putsN (stE rows least i).2 (ats (rows.getD ((ordF (atss rows)).getD i 0).toNat [])) b ((ordF (atss rows)).getD i 0) j) s.1)).length s.2.2) ((padN (putsN (stE rows least i).2 (ats (rows.getD ((ordF (atss rows)).getD i 0).toNat [])) b ((ordF (atss rows)).getD i 0) j) s.1)), Row (fInt .i64) 3 (.slice A6 rows.length rows.length) ((stE rows least i).1.set ((ordF (atss rows)).getD i 0).toNat b), Row (fInt .i64) 3 (.slice A9 (ordF (atss rows)).length c9) (ordF (atss rows))] W) (fun s => ((b : Int) + ((rows.getD ((ordF (atss rows)).getD i 0).toNat []).getD j enZ).at_).toNat + 1 - ((putsN (stE rows least i).2 (ats (rows.getD ((ordF (atss rows)).getD i 0).toNat [])) b ((ordF (atss rows)).getD i 0) j).length + s.1)) (0, A7, c7) (sc rfl (sc rfl (sc rfl (sc rfl (sc rfl (sc rfl (sc rfl (sc rfl (sc rfl (sn _)))))))))) ⟨.inl rfl, H.pm (by repeat constructor)⟩ ?_
            rintro ⟨q, A7, c7⟩ W4 ⟨hq, H⟩
            dsimp only at hq H ⊢
            have hql : ((padN (putsN (stE rows least i).2 (ats (rows.getD ((ordF (atss rows)).getD i 0).toNat [])) b ((ordF (atss rows)).getD i 0) j) q)).length = (putsN (stE rows least i).2 (ats (rows.getD ((ordF (atss rows)).getD i 0).toNat [])) b ((ordF (atss rows)).getD i 0) j).length + q := padN_len _ _
            refine wc_seq ?_
            refine wc_seq ?_
            refine wc_region ?_
            refine wl_v rfl rfl rfl (v_move rfl) ?_
            refine wl_v rfl rfl rfl (v_len Try.underlying39 rfl) ?_
            refine wl_v rfl rfl rfl (v_move rfl) ?_
            refine wl_v rfl rfl rfl (v_move rfl) ?_
            refine wl_v rfl rfl rfl (v_move rfl) ?_
            refine wl_v rfl rfl rfl (v_idx Try.underlying90 sz91 hR.ad rfl rfl (by omega) (by omega)) ?_
            obtain ⟨B72, cp72, hc72, hl72, hr72⟩ := hR.atSl (i := ((ordF (atss rows)).getD i 0)) (by omega) (by omega)
            refine wl_v rfl rfl rfl (v_load one91 rfl (H.cell (hc72))) ?_
            refine wl_v rfl rfl rfl (v_move rfl) ?_
            refine wl_v rfl rfl rfl (v_idx Try.underlying91 sz93 hr72.ad rfl rfl (by omega) (by omega)) ?_
            refine wl_v rfl rfl rfl (v_fp fa93_0 rfl) ?_
            refine wl_v rfl rfl rfl (v_load one3 rfl (H.cell (hr72.atN (i := j) (k := 0) enZ (by omega) rfl))) ?_
            refine wl_v rfl rfl rfl (v_addi rfl rfl (by omega)) ?_
            refine wl_v rfl rfl rfl (v_leq rfl rfl) ?_
            refine wl_nil ?_
            refine wc_cond rfl (fun c5 => ?_) (fun c5 => ?_)
            · have c5p := of_decide_eq_true c5
              refine wc_skip ?_
              refine wc_block ?_
              refine wc_region ?_
              refine wl_v rfl rfl rfl (v_move rfl) ?_
              refine wl_slit (v := .int .i64 0) (z := [.int .i64 0]) (cs := [.int .i64 (-1)]) (sz := 1) H rfl Try.underlying39 sz3 zv3 (by decide) (by decide) (by kernel_rfl) rfl (by repeat constructor) ?_
              intro b80 w9 hb80 H9 hs9
              refine wl_app1 (f := fInt .i64) (xs := (padN (putsN (stE rows least i).2 (ats (rows.getD ((ordF (atss rows)).getD i 0).toNat [])) b ((ordF (atss rows)).getD i 0) j) q)) (y' := -1) H9 (fun v' => (by repeat constructor)) (by repeat constructor) rfl Try.underlying39 info3 rfl (by decide) rfl rfl rfl (by omega) (by decide) ?_
              intro A81 c81 w10 H10 hs10
              refine wl_v rfl rfl rfl (v_assign rfl) ?_
              refine wl_nil ?_
              exact ⟨(q + 1, A81, c81), (sc rfl (sc rfl (sc rfl (sc rfl (sc rfl (sc rfl (sc rfl (sc rfl (sc rfl (sn _)))))))))), ⟨.inr (by dsimp only; omega), H10.pm (by repeat constructor)⟩, by dsimp only; omega⟩
            · have c5p := of_decide_eq_false c5
              have hrowc := H.rrd (f := fInt .i64) (e := 3) (A := A7) (xs := (padN (putsN (stE rows least i).2 (ats (rows.getD ((ordF (atss rows)).getD i 0).toNat [])) b ((ordF (atss rows)).getD i 0) j) q)) (by repeat constructor)
              have hradc : 0 < ((padN (putsN (stE rows least i).2 (ats (rows.getD ((ordF (atss rows)).getD i 0).toNat [])) b ((ordF (atss rows)).getD i 0) j) q)).length → A7 = some (adr A7) := fun h => hrowc.ad h
              refine wc_exit ?_
              refine wc_region ?_
              refine wl_v rfl rfl rfl (v_move rfl) ?_
              refine wl_v rfl rfl rfl (v_move rfl) ?_
              refine wl_v rfl rfl rfl (v_move rfl) ?_
              refine wl_v rfl rfl rfl (v_move rfl) ?_
              refine wl_v rfl rfl rfl (v_idx Try.underlying90 sz91 hR.ad rfl rfl (by omega) (by omega)) ?_
              obtain ⟨B87, cp87, hc87, hl87, hr87⟩ := hR.atSl (i := ((ordF (atss rows)).getD i 0)) (by omega) (by omega)
              refine wl_v rfl rfl rfl (v_load one91 rfl (H.cell (hc87))) ?_
              refine wl_v rfl rfl rfl (v_move rfl) ?_
              refine wl_v rfl rfl rfl (v_idx Try.underlying91 sz93 hr87.ad rfl rfl (by omega) (by omega)) ?_
              refine wl_v rfl rfl rfl (v_fp fa93_0 rfl) ?_
              refine wl_v rfl rfl rfl (v_load one3 rfl (H.cell (hr87.atN (i := j) (k := 0) enZ (by omega) rfl))) ?_
              refine wl_v rfl rfl rfl (v_addi rfl rfl (by omega)) ?_
              refine wl_v rfl rfl rfl (v_move rfl) ?_
              refine wl_v rfl rfl rfl (v_idx Try.underlying39 sz3 hradc rfl rfl (by omega) (by omega)) ?_
              refine wl_storeR (f := fInt .i64) (xs := (padN (putsN (stE rows least i).2 (ats (rows.getD ((ordF (atss rows)).getD i 0).toNat [])) b ((ordF (atss rows)).getD i 0) j) q)) (i := (b : Int) + ((rows.getD ((ordF (atss rows)).getD i 0).toNat []).getD j enZ).at_) (x' := ((ordF (atss rows)).getD i 0)) H (by repeat constructor) sz3 rfl rfl rfl (by omega) (by omega) ?_
              intro w11 H11
              refine wl_nil ?_
              refine wc_region ?_
              refine wl_v rfl rfl rfl (v_move rfl) ?_
              refine wl_v rfl rfl rfl (v_addi rfl rfl (by omega)) ?_
              refine wl_v rfl rfl rfl (v_assign rfl) ?_
              refine wl_nil ?_
              have hp := pad_is (C := (putsN (stE rows least i).2 (ats (rows.getD ((ordF (atss rows)).getD i 0).toNat [])) b ((ordF (atss rows)).getD i 0) j)) (q := q) (n := ((b : Int) + ((rows.getD ((ordF (atss rows)).getD i 0).toNat []).getD j enZ).at_).toNat + 1) (by omega) (by omega)
              have hpe : (padN (putsN (stE rows least i).2 (ats (rows.getD ((ordF (atss rows)).getD i 0).toNat [])) b ((ordF (atss rows)).getD i 0) j) q).set ((b : Int) + ((rows.getD ((ordF (atss rows)).getD i 0).toNat []).getD j enZ).at_).toNat ((ordF (atss rows)).getD i 0) = putsN (stE rows least i).2 (ats (rows.getD ((ordF (atss rows)).getD i 0).toNat [])) b ((ordF (atss rows)).getD i 0) (j + 1) := by rw [putsN_succ (by omega), ats_get, putAt, hp]
              have hll : (putsN (stE rows least i).2 (ats (rows.getD ((ordF (atss rows)).getD i 0).toNat [])) b ((ordF (atss rows)).getD i 0) (j + 1)).length = ((padN (putsN (stE rows least i).2 (ats (rows.getD ((ordF (atss rows)).getD i 0).toNat [])) b ((ordF (atss rows)).getD i 0) j) q)).length := by rw [← hpe, List.length_set]
              rw [← len_set (padN (putsN (stE rows least i).2 (ats (rows.getD ((ordF (atss rows)).getD i 0).toNat [])) b ((ordF (atss rows)).getD i 0) j) q) ((b : Int) + ((rows.getD ((ordF (atss rows)).getD i 0).toNat []).getD j enZ).at_).toNat ((ordF (atss rows)).getD i 0), hpe] at H11
              exact ⟨(j + 1, A7, c7), by rw [hll]; exact (sc rfl (sc rfl (sc rfl (sc rfl (sc rfl (sc rfl (sc rfl (sc rfl (sc rfl (sn _)))))))))), ⟨by dsimp only; omega, by dsimp only; rw [hll]; omega, H11.pm (by repeat constructor)⟩, by dsimp only; omega⟩
          · have c4p := of_decide_eq_false c4
            have hje : j = (rows.getD ((ordF (atss rows)).getD i 0).toNat []).length := by omega
            refine wc_exit ?_
            refine wc_region ?_
            refine wl_v rfl rfl rfl (v_move rfl) ?_
            refine wl_v rfl rfl rfl (v_addi rfl rfl (by omega)) ?_
            refine wl_v rfl rfl rfl (v_assign rfl) ?_
            refine wl_nil ?_
            first
              | exact ⟨(i + 1, A7, c7), by rw [stE_skip (by omega) (by omega)]; exact (sc rfl (sc rfl (sc rfl (sc rfl (sc rfl (sc rfl (sn _))))))), ⟨by dsimp only; omega, by rw [stE_skip (by omega) (by omega)]; exact H.pm (by repeat constructor)⟩, by dsimp only; omega⟩
              | exact ⟨(i + 1, A7, c7), by rw [stE_succ (by omega) (by omega) hbf, ← hje]; exact (sc rfl (sc rfl (sc rfl (sc rfl (sc rfl (sc rfl (sn _))))))), ⟨by dsimp only; omega, by rw [stE_succ (by omega) (by omega) hbf, ← hje]; exact H.pm (by repeat constructor)⟩, by dsimp only; omega⟩
    · have c1p := of_decide_eq_false c1
      obtain rfl : i = rows.length := by omega
      refine wc_exit ?_
      refine wc_seq ?_
      refine wc_region ?_
      refine wl_v rfl rfl rfl (v_move rfl) ?_
      refine wl_v rfl rfl rfl (v_move rfl) ?_
      refine wl_v rfl rfl rfl (v_assign rfl) ?_
      refine wl_v rfl rfl rfl (v_assign rfl) ?_
      refine wl_nil ?_
      refine wc_ret ?_
      rw [stE_laid (fun r hr k hk => (hM r hr k hk).1)] at H hbl0
      have hlen : (laidF (atss rows) (ordF (atss rows)) least).1.length = rows.length := hbl0
      exact ⟨_, res2 rfl rfl rfl, A6, rows.length, A7, c7, by rw [stE_laid (fun r hr k hk => (hM r hr k hk).1), hlen], by rw [hlen]; exact H.pm (by repeat constructor)⟩
end Go.Proofs.Ytkpehkadammppaa.LayW
