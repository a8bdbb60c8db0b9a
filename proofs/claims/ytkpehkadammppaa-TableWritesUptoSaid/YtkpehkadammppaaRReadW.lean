/- How the document reads bytes. -/
import Derived.Test.YtkpehkadammppaaProg
import Derived.Test.YtkpehkadammppaaRdg
import Derived.Test.YtkpehkadammppaaNumW
import Derived.Test.YtkpehkadammppaaBytesW
import Derived.Test.YtkpehkadammppaaUnp
set_option linter.unusedVariables false
set_option linter.unusedSimpArgs false
namespace Go.Proofs.Ytkpehkadammppaa.RReadW
open Go Go.RowKit Go.Proofs.YtkpehkadammppaaFx Go.Proofs.Ytkpehkadammppaa.NumW Go.Proofs.Ytkpehkadammppaa.TabB Go.Proofs.Ytkpehkadammppaa.BytesW
theorem agg25 : Agg Try.prog 25 2 := agg_of Try.underlying25 (by kernel_rfl)
theorem agg48 : Agg Try.prog 48 2 := agg_of Try.underlying48 (by kernel_rfl)
theorem ba115 : BuildAt Try.prog 115 [.slice none 0 0, .int .i64 0, .bool false] [(0, 1), (1, 1), (2, 1)] := build_at Try.underlying115 (by kernel_rfl) (by kernel_rfl)
theorem ba25 : BuildAt Try.prog 25 [.slice none 0 0, .slice none 0 0] [(0, 1), (1, 1)] := build_at Try.underlying25 (by kernel_rfl) (by kernel_rfl)
theorem ba48 : BuildAt Try.prog 48 [.int .i64 0, .int .i64 0] [(0, 1), (1, 1)] := build_at Try.underlying48 (by kernel_rfl) (by kernel_rfl)
theorem en28 : Enters Try.prog 28 := enters Try.func28 (by kernel_rfl) rfl
theorem en55 : Enters Try.prog 55 := enters Try.func55 (by kernel_rfl) rfl
theorem fa115_2 : FieldAt Try.prog 115 2 2 := field_at (sz := 0) Try.underlying115 rfl (by kernel_rfl) rfl
theorem fa25_0 : FieldAt Try.prog 25 0 0 := field_at (sz := 0) Try.underlying25 rfl (by kernel_rfl) rfl
theorem fa25_1 : FieldAt Try.prog 25 1 1 := field_at (sz := 0) Try.underlying25 rfl (by kernel_rfl) rfl
theorem fa48_1 : FieldAt Try.prog 48 1 1 := field_at (sz := 0) Try.underlying48 rfl (by kernel_rfl) rfl
theorem info3 : (Try.prog.info? 3).map (fun i => (i.zero, i.size, i.bytes)) = some (some (.int .i64 0), 1, 8) := by kernel_rfl
theorem info38 : (Try.prog.info? 38).map (fun i => (i.zero, i.size, i.bytes)) = some (some (.slice none 0 0), 1, 24) := by kernel_rfl
theorem info39 : (Try.prog.info? 39).map (fun i => (i.zero, i.size, i.bytes)) = some (some (.slice none 0 0), 1, 24) := by kernel_rfl
theorem info48 : (Try.prog.info? 48).map (fun i => (i.zero, i.size, i.bytes)) = some (some (.agg #[.int .i64 0, .int .i64 0]), 2, 16) := by kernel_rfl
theorem mixed : Try.prog.follows .mixedOrders = true := by kernel_rfl
theorem one22 : One Try.prog 22 := one_of Try.underlying22 rfl (by kernel_rfl)
theorem one23 : One Try.prog 23 := one_of Try.underlying23 rfl (by kernel_rfl)
theorem one4 : One Try.prog 4 := one_of Try.underlying4 rfl (by kernel_rfl)
theorem sz115 : ∀ W, (sizeOf 115).run Try.prog W = .ok 3 W := size_of (by kernel_rfl)
theorem sz22 : ∀ W, (sizeOf 22).run Try.prog W = .ok 1 W := size_of (by kernel_rfl)
theorem sz23 : ∀ W, (sizeOf 23).run Try.prog W = .ok 1 W := size_of (by kernel_rfl)
theorem sz25 : ∀ W, (sizeOf 25).run Try.prog W = .ok 2 W := size_of (by kernel_rfl)
theorem sz3 : ∀ W, (sizeOf 3).run Try.prog W = .ok 1 W := size_of (by kernel_rfl)
theorem sz38 : ∀ W, (sizeOf 38).run Try.prog W = .ok 1 W := size_of (by kernel_rfl)
theorem sz39 : ∀ W, (sizeOf 39).run Try.prog W = .ok 1 W := size_of (by kernel_rfl)
theorem sz48 : ∀ W, (sizeOf 48).run Try.prog W = .ok 2 W := size_of (by kernel_rfl)
theorem zv115 : ∀ W, (zeroValue 115).run Try.prog W = .ok (.agg #[.slice none 0 0, .int .i64 0, .bool false]) W := zero_of (by kernel_rfl)
theorem zv25 : ∀ W, (zeroValue 25).run Try.prog W = .ok (.agg #[.slice none 0 0, .slice none 0 0]) W := zero_of (by kernel_rfl)
theorem zv3 : ∀ W, (zeroValue 3).run Try.prog W = .ok (.int .i64 0) W := zero_of (by kernel_rfl)
theorem zv38 : ∀ W, (zeroValue 38).run Try.prog W = .ok (.slice none 0 0) W := zero_of (by kernel_rfl)
theorem zv39 : ∀ W, (zeroValue 39).run Try.prog W = .ok (.slice none 0 0) W := zero_of (by kernel_rfl)
theorem zv48 : ∀ W, (zeroValue 48).run Try.prog W = .ok (.agg #[.int .i64 0, .int .i64 0]) W := zero_of (by kernel_rfl)

set_option maxHeartbeats 3200000 in
set_option maxRecDepth 100000 in
theorem rread_calls {A : Option Addr} {c : Nat} {bs : List Int} {w : World} (hr : Rd (kInt .u8) w A bs) (hB : Bytes bs) (hl : bs.length ≤ 1048573) :
    Calls Try.prog 30 #[.slice A bs.length c] w fun e w' => ∃ v, e = .returned v ∧ ∃ v1 v2, v = .tuple #[.agg #[v1, v2], .bool (readP bs).isSome] ∧ Holds w (OwnT v1 v2 (rdT bs)) w' := by
  refine calls_of Try.func30 rfl Try.ntmps30 rfl ?_
  have H := Holds.start w
  refine wc_seq ?_
  refine wc_region ?_
  refine wl_alloc (cs := [.slice none 0 0, .slice none 0 0]) H rfl zv25 rfl ?_
  intro b2 w1 hb2 H2
  refine wl_v rfl rfl rfl (v_assign rfl) ?_
  refine wl_nil ?_
  refine wc_seq ?_
  refine wc_region ?_
  refine wl_v rfl rfl rfl (v_move rfl) ?_
  refine wl_v rfl rfl rfl (v_bld ba115 rfl (by repeat constructor)) ?_
  refine wl_alloc (cs := [.slice none 0 0, .int .i64 0, .bool false]) H2 rfl zv115 rfl ?_
  intro b4 w3 hb4 H4
  refine wl_store (vs := [_, _, _]) H4 (by repeat constructor) sz115 rfl rfl rfl rfl rfl (by (repeat constructor)) ?_
  intro w5 H6 hw5
  refine wl_nil ?_
  refine wc_seq ?_
  refine wc_region ?_
  refine wl_call en55 rfl rfl (next_calls (b := b4) (bs := bs) (a := 0) (bad := false) (c := c) (LL := fun x => [Blk b4 115 x, Blk b2 25 [.slice none 0 0, .slice none 0 0]]) (fun x y => by repeat constructor) hr hB (by omega) (Nat.zero_le _) H6) ?_
  rintro _ w7 ⟨rfl, Hc19⟩
  have n1 := nxtS_nx (a := 0) false hB (Nat.zero_le _)
  obtain ⟨⟨q1, p1, bad1⟩, hq1⟩ : ∃ q, nxtS bs 0 false = q := ⟨_, rfl⟩
  rw [hq1] at n1 Hc19 ⊢
  dsimp only at n1 Hc19 ⊢
  obtain ⟨n1, k1⟩ := n1
  have ln1 := n1.le
  refine wl_call en55 rfl rfl (next_calls (b := b4) (bs := bs) (a := p1) (bad := bad1) (c := c) (LL := fun x => [Blk b4 115 x, Blk b2 25 [.slice none 0 0, .slice none 0 0]]) (fun x y => by repeat constructor) hr hB (by omega) k1 Hc19) ?_
  rintro _ w8 ⟨rfl, Hc20⟩
  have n2 := nxtS_nx (a := p1) bad1 hB k1
  obtain ⟨⟨q2, p2, bad2⟩, hq2⟩ : ∃ q, nxtS bs p1 bad1 = q := ⟨_, rfl⟩
  rw [hq2] at n2 Hc20 ⊢
  dsimp only at n2 Hc20 ⊢
  obtain ⟨n2, k2⟩ := n2
  have ln2 := n2.le
  refine wl_call en55 rfl rfl (next_calls (b := b4) (bs := bs) (a := p2) (bad := bad2) (c := c) (LL := fun x => [Blk b4 115 x, Blk b2 25 [.slice none 0 0, .slice none 0 0]]) (fun x y => by repeat constructor) hr hB (by omega) k2 Hc20) ?_
  rintro _ w9 ⟨rfl, Hc21⟩
  have n3 := nxtS_nx (a := p2) bad2 hB k2
  obtain ⟨⟨q3, p3, bad3⟩, hq3⟩ : ∃ q, nxtS bs p2 bad2 = q := ⟨_, rfl⟩
  rw [hq3] at n3 Hc21 ⊢
  dsimp only at n3 Hc21 ⊢
  obtain ⟨n3, k3⟩ := n3
  have ln3 := n3.le
  refine wl_v rfl rfl rfl (v_assign rfl) ?_
  refine wl_v rfl rfl rfl (v_assign rfl) ?_
  refine wl_v rfl rfl rfl (v_assign rfl) ?_
  refine wl_nil ?_
  refine wc_seq ?_
  refine wc_seq ?_
  refine wc_region ?_
  refine wl_v rfl rfl rfl (v_fb (o2 := 2) fa115_2 rfl rfl) ?_
  refine wl_v rfl rfl rfl (v_load one4 rfl (Hc21.at (by repeat constructor) rfl)) ?_
  refine wl_v rfl rfl rfl (v_move rfl) ?_
  refine wl_guard rfl rfl rfl (fun g24 => ?_) (fun g24 => ?_)
  · refine wl_v rfl rfl rfl (v_move rfl) ?_
    refine wl_on' rfl rfl g24 ?_
    refine wl_v rfl rfl rfl (v_move rfl) ?_
    refine wl_on' rfl rfl g24 ?_
    refine wl_v rfl rfl rfl (v_len Try.underlying64 rfl) ?_
    refine wl_on' rfl rfl g24 ?_
    refine wl_v rfl rfl rfl (v_gtr rfl rfl) ?_
    refine wl_v rfl rfl rfl (v_pick_f rfl g24 rfl) ?_
    refine wl_v rfl rfl rfl (v_move rfl) ?_
    refine wl_guard rfl rfl rfl (fun g30 => ?_) (fun g30 => ?_)
    · have g30p := of_decide_eq_false g30
      refine wl_v rfl rfl rfl (v_move rfl) ?_
      refine wl_on' rfl rfl g30 ?_
      refine wl_v rfl rfl rfl (v_move rfl) ?_
      refine wl_on' rfl rfl g30 ?_
      refine wl_v rfl rfl rfl (v_len Try.underlying64 rfl) ?_
      refine wl_on' rfl rfl g30 ?_
      refine wl_v rfl rfl rfl (v_gtr rfl rfl) ?_
      refine wl_v rfl rfl rfl (v_pick_f rfl g30 rfl) ?_
      refine wl_v rfl rfl rfl (v_move rfl) ?_
      refine wl_guard rfl rfl rfl (fun g36 => ?_) (fun g36 => ?_)
      · have g36p := of_decide_eq_false g36
        refine wl_v rfl rfl rfl (v_move rfl) ?_
        refine wl_on' rfl rfl g36 ?_
        refine wl_v rfl rfl rfl (v_move rfl) ?_
        refine wl_on' rfl rfl g36 ?_
        refine wl_v rfl rfl rfl (v_len Try.underlying64 rfl) ?_
        refine wl_on' rfl rfl g36 ?_
        refine wl_v rfl rfl rfl (v_gtr rfl rfl) ?_
        refine wl_v rfl rfl rfl (v_pick_f rfl g36 rfl) ?_
        refine wl_nil ?_
        refine wc_cond rfl (fun c0 => ?_) (fun c0 => ?_)
        · have c0p := of_decide_eq_true c0
          refine wc_seq ?_
          refine wc_region ?_
          refine wl_v rfl rfl rfl (v_bld ba25 rfl (by repeat constructor)) ?_
          refine wl_store (vs := [_, _]) Hc21 (by repeat constructor) sz25 rfl rfl rfl rfl rfl (by (repeat constructor)) ?_
          intro w10 H11 hw10
          refine wl_v rfl rfl rfl (v_assign rfl) ?_
          refine wl_nil ?_
          refine wc_ret ?_
          first
            | (have hd : readP bs = none := by
                 first
                   | exact readP_bad hB ((PR.start (bs := bs) n1 n2 n3).bad g24)
                   | (have g24' : bad3 = false := by simpa using g24
                      subst g24'
                      rw [read_eq hB]
                      exact (PR.start (bs := bs) n1 n2 n3).long (by omega))
                   | exact readP_bad hB ((hpr.next (bad4 := bg) (by omega) hpm hmk hpg hgk (fun h => ⟨h, .inr (by omega)⟩) (fun h => .inl h)).bad c4)
                   | (rw [read_eq hB, hpr.finR (by omega) ⟨by omega, by omega, by omega⟩, dec_f (fun h => g103p (by_t h.1).2)]
                      rfl)
                   | (rw [read_eq hB, hpr.finR (by omega) ⟨by omega, by omega, by omega⟩, dec_f (fun h => c5p (by rw [(by_t h.1).1, h.2]))]
                      rfl)
               obtain ⟨d1, d2⟩ := rd_none hd
               rw [d1, hd]
               exact ⟨_, resc2 rfl rfl (run_loadVarN agg25 rfl (H11.ats (by repeat constructor))) rfl, _, _, rfl, ((H11.rrNil fMv 38 48).rrNil (fInt .i64) 39 3).pm (by repeat constructor)⟩)
            | (have hby : ByOk t := by
                 rcases Classical.em (ByOk t) with h | h
                 · exact h
                 · have := (by_f h).2
                   omega
               have hbt : Bytes (tbB t) := tbB_bytes t
               have hd : readP bs = some t := by
                 rw [read_eq hB, hpr.finR (by omega) ⟨by omega, by omega, by omega⟩, dec_t ⟨hby, by rw [(by_t hby).1] at c5p; exact strOf_inj hbt hB c5p⟩]
                 rfl
               obtain ⟨d1, d2⟩ := rd_some hd
               rw [d1, hd]
               exact ⟨_, resc2 rfl rfl (run_loadVarN agg25 rfl (H11.ats (by repeat constructor))) rfl, _, _, rfl, H11.pm (by repeat constructor)⟩)
        · have c0p := of_decide_eq_false c0
          refine wc_skip ?_
          refine wc_seq ?_
          refine wc_region ?_
          refine wl_alloc (cs := [.slice none 0 0, .slice none 0 0]) Hc21 rfl zv25 rfl ?_
          intro b8 w12 hb8 H13
          refine wl_nil ?_
          refine wc_seq ?_
          refine wc_seq ?_
          refine wc_region ?_
          refine wl_v rfl rfl rfl (v_assign rfl) ?_
          refine wl_nil ?_
          refine wc_block ?_
          have g24' : bad3 = false := by simpa using g24
          subst g24'
          refine wc_loop (σ := Tb × Nat) (fun s => [(0, .slice A bs.length c), (2, .pointer (some ⟨b2, 0, none⟩)), (4, .pointer (some ⟨b4, 0, none⟩)), (8, .pointer (some ⟨b8, 0, none⟩)), (5, .int .i64 q1), (6, .int .i64 q2), (7, .int .i64 q3), (9, .int .i64 s.1.mv.length)]) (fun s W => (PR bs q1 q2 q3 s.1 (bs.drop s.2) false ∧ s.2 ≤ bs.length) ∧ ∃ v1 v2, Holds w [RR fMv 38 48 v1 s.1.mv, RR (fInt .i64) 39 3 v2 s.1.go, Blk b8 25 [v1, v2], Blk b4 115 [.slice A bs.length c, .int .i64 s.2, .bool false], Blk b2 25 [.slice none 0 0, .slice none 0 0]] W) (fun s => q1 - s.1.mv.length) (⟨[], []⟩, p3) (sc rfl (sc rfl (sc rfl (sc rfl (sc rfl (sc rfl (sc rfl (sc rfl (sn _))))))))) ⟨⟨PR.start (bs := bs) n1 n2 n3, k3⟩, _, _, ((H13.rrNil fMv 38 48).rrNil (fInt .i64) 39 3).pm (by repeat constructor)⟩ ?_
          rintro ⟨t, a1⟩ W0 ⟨⟨hpr, ha1⟩, v1, v2, H⟩
          dsimp only at hpr ha1 H ⊢
          have hsz := hpr.sz
          have hd1 : (bs.drop a1).length = bs.length - a1 := List.length_drop ..
          refine wc_seq ?_
          refine wc_seq ?_
          refine wc_region ?_
          refine wl_v rfl rfl rfl (v_move rfl) ?_
          refine wl_v rfl rfl rfl (v_move rfl) ?_
          refine wl_v rfl rfl rfl (v_lss rfl rfl) ?_
          refine wl_nil ?_
          refine wc_cond rfl (fun c1 => ?_) (fun c1 => ?_)
          · have c1p := of_decide_eq_true c1
            refine wc_skip ?_
            refine wc_seq ?_
            refine wc_block ?_
            refine wc_seq ?_
            refine wc_region ?_
            refine wl_v rfl rfl rfl (v_assign rfl) ?_
            refine wl_nil ?_
            refine wc_seq ?_
            refine wc_region ?_
            refine wl_v rfl rfl rfl (v_assign rfl) ?_
            refine wl_nil ?_
            refine wc_cut (σ := List Mv × (Option Addr × Nat) × Nat × Bool) (fun s => [(0, .slice A bs.length c), (2, .pointer (some ⟨b2, 0, none⟩)), (4, .pointer (some ⟨b4, 0, none⟩)), (8, .pointer (some ⟨b8, 0, none⟩)), (5, .int .i64 q1), (6, .int .i64 q2), (7, .int .i64 q3), (9, .int .i64 t.mv.length), (10, .slice s.2.1.1 s.1.length s.2.1.2), (11, .slice none 0 0), (12, .int .i64 s.1.length)]) (fun s W => (PM q2 (bs.drop a1) s.1 (bs.drop s.2.2.1) s.2.2.2 ∧ s.2.2.1 ≤ bs.length ∧ (s.2.2.2 = false → q2 ≤ s.1.length)) ∧ Holds w [Row fMv 48 (.slice s.2.1.1 s.1.length s.2.1.2) s.1, RR fMv 38 48 v1 t.mv, RR (fInt .i64) 39 3 v2 t.go, Blk b8 25 [v1, v2], Blk b4 115 [.slice A bs.length c, .int .i64 s.2.2.1, .bool s.2.2.2], Blk b2 25 [.slice none 0 0, .slice none 0 0]] W) ?_ ?_
            · refine wc_seq ?_
              refine wc_region ?_
              refine wl_v rfl rfl rfl (v_assign rfl) ?_
              refine wl_nil ?_
              refine wc_block ?_
              refine wc_loop (σ := List Mv × (Option Addr × Nat) × Nat × Bool) (fun s => [(0, .slice A bs.length c), (2, .pointer (some ⟨b2, 0, none⟩)), (4, .pointer (some ⟨b4, 0, none⟩)), (8, .pointer (some ⟨b8, 0, none⟩)), (5, .int .i64 q1), (6, .int .i64 q2), (7, .int .i64 q3), (9, .int .i64 t.mv.length), (10, .slice s.2.1.1 s.1.length s.2.1.2), (11, .slice none 0 0), (12, .int .i64 s.1.length)]) (fun s W => (PM q2 (bs.drop a1) s.1 (bs.drop s.2.2.1) s.2.2.2 ∧ s.2.2.1 ≤ bs.length) ∧ Holds w [Row fMv 48 (.slice s.2.1.1 s.1.length s.2.1.2) s.1, RR fMv 38 48 v1 t.mv, RR (fInt .i64) 39 3 v2 t.go, Blk b8 25 [v1, v2], Blk b4 115 [.slice A bs.length c, .int .i64 s.2.2.1, .bool s.2.2.2], Blk b2 25 [.slice none 0 0, .slice none 0 0]] W) (fun s => bs.length + 3 - s.1.length) ([], (none, 0), a1, false) (sc rfl (sc rfl (sc rfl (sc rfl (sc rfl (sc rfl (sc rfl (sc rfl (sc rfl (sc rfl (sc rfl (sn _)))))))))))) ⟨⟨PM.start q2 hpr.byt, ha1⟩, (H.nilrow 48 2).pm (by repeat constructor)⟩ ?_
              rintro ⟨ms, ⟨A10, z10⟩, a2, bm⟩ W1 ⟨⟨hpm, ha2⟩, H⟩
              dsimp only at hpm ha2 H ⊢
              have hms := hpm.sz
              refine wc_seq ?_
              refine wc_seq ?_
              refine wc_region ?_
              refine wl_v rfl rfl rfl (v_move rfl) ?_
              refine wl_v rfl rfl rfl (v_move rfl) ?_
              refine wl_v rfl rfl rfl (v_lss rfl rfl) ?_
              refine wl_v rfl rfl rfl (v_move rfl) ?_
              refine wl_guard rfl rfl rfl (fun g51 => ?_) (fun g51 => ?_)
              · have g51p := of_decide_eq_true g51
                refine wl_v rfl rfl rfl (v_fb (o2 := 2) fa115_2 rfl rfl) ?_
                refine wl_on' rfl rfl g51 ?_
                refine wl_v rfl rfl rfl (v_load one4 rfl (H.at (by repeat constructor) rfl)) ?_
                refine wl_on' rfl rfl g51 ?_
                refine wl_v rfl rfl rfl (v_not rfl) ?_
                refine wl_v rfl rfl rfl (v_pick_t rfl g51 rfl) ?_
                refine wl_nil ?_
                refine wc_cond rfl (fun c2 => ?_) (fun c2 => ?_)
                · have c2p := of_n_t c2
                  subst c2p
                  refine wc_skip ?_
                  refine wc_seq ?_
                  refine wc_block ?_
                  refine wc_seq ?_
                  refine wc_region ?_
                  refine wl_call en55 rfl rfl (next_calls (b := b4) (bs := bs) (a := a2) (bad := false) (c := c) (LL := fun x => [Row fMv 48 (.slice A10 ms.length z10) ms, RR fMv 38 48 v1 t.mv, RR (fInt .i64) 39 3 v2 t.go, Blk b8 25 [v1, v2], Blk b4 115 x, Blk b2 25 [.slice none 0 0, .slice none 0 0]]) (fun x y => by repeat constructor) hr hB (by omega) ha2 H) ?_
                  rintro _ w14 ⟨rfl, Hc58⟩
                  have na := nxtS_nx (a := a2) false hB ha2
                  obtain ⟨⟨qa, pa, bada⟩, hqa⟩ : ∃ q, nxtS bs a2 false = q := ⟨_, rfl⟩
                  rw [hqa] at na Hc58 ⊢
                  dsimp only at na Hc58 ⊢
                  obtain ⟨na, ka⟩ := na
                  have lna := na.le
                  refine wl_v rfl rfl rfl (v_bld ba48 rfl (by repeat constructor)) ?_
                  refine wl_alloc (cs := [.int .i64 0, .int .i64 0]) Hc58 rfl zv48 rfl ?_
                  intro b13 w15 hb13 H16
                  refine wl_store (vs := [_, _]) H16 (by repeat constructor) sz48 rfl rfl rfl rfl rfl (by (repeat constructor)) ?_
                  intro w17 H18 hw17
                  refine wl_nil ?_
                  refine wc_seq ?_
                  refine wc_region ?_
                  refine wl_call en55 rfl rfl (next_calls (b := b4) (bs := bs) (a := pa) (bad := bada) (c := c) (LL := fun x => [Blk b13 48 [.int .i64 (qa : Int), .int .i64 0], Row fMv 48 (.slice A10 ms.length z10) ms, RR fMv 38 48 v1 t.mv, RR (fInt .i64) 39 3 v2 t.go, Blk b8 25 [v1, v2], Blk b4 115 x, Blk b2 25 [.slice none 0 0, .slice none 0 0]]) (fun x y => by repeat constructor) hr hB (by omega) ka H18) ?_
                  rintro _ w19 ⟨rfl, Hc60⟩
                  have nb := nxtS_nx (a := pa) bada hB ka
                  obtain ⟨⟨qb, pb, badb⟩, hqb⟩ : ∃ q, nxtS bs pa bada = q := ⟨_, rfl⟩
                  rw [hqb] at nb Hc60 ⊢
                  dsimp only at nb Hc60 ⊢
                  obtain ⟨nb, kb⟩ := nb
                  have lnb := nb.le
                  refine wl_v rfl rfl rfl (v_fb (o2 := 1) fa48_1 rfl rfl) ?_
                  refine wl_store (vs := [_]) Hc60 (by repeat constructor) sz3 rfl rfl rfl rfl rfl (by (repeat constructor)) ?_
                  intro w20 H21 hw20
                  refine wl_nil ?_
                  refine wc_region ?_
                  refine wl_v rfl rfl rfl (v_move rfl) ?_
                  refine wl_v rfl rfl rfl (v_loadN agg48 rfl rfl (H21.ats (by repeat constructor))) ?_
                  refine wl_slit (v := .agg #[.int .i64 0, .int .i64 0]) (z := [.int .i64 0, .int .i64 0]) (cs := [.int .i64 (qa : Int), .int .i64 (qb : Int)]) (sz := 2) H21 rfl Try.underlying38 sz48 zv48 (by decide) (by decide) (by kernel_rfl) rfl (by repeat constructor) ?_
                  intro b64 w22 hb64 H22 hs22
                  refine wl_app1 (f := fMv) (xs := ms) (y' := ⟨(qa : Int), (qb : Int)⟩) H22 (fun v' => (by repeat constructor)) (by repeat constructor) rfl Try.underlying38 info48 rfl (by decide) rfl rfl rfl (by omega) (by decide) ?_
                  intro A65 z65 w23 H23 hs23
                  refine wl_v rfl rfl rfl (v_assign rfl) ?_
                  refine wl_nil ?_
                  refine wc_region ?_
                  refine wl_v rfl rfl rfl (v_move rfl) ?_
                  refine wl_v rfl rfl rfl (v_addi rfl rfl (by omega)) ?_
                  refine wl_v rfl rfl rfl (v_assign rfl) ?_
                  refine wl_nil ?_
                  exact ⟨(ms ++ [⟨(qa : Int), (qb : Int)⟩], (A65, z65), pb, badb), by rw [show ((ms ++ [(⟨(qa : Int), (qb : Int)⟩ : Mv)]).length : Int) = (ms.length : Int) + 1 by simp]; exact (sc rfl (sc rfl (sc rfl (sc rfl (sc rfl (sc rfl (sc rfl (sc rfl (sc rfl (sc rfl (sc rfl (sn _)))))))))))), ⟨⟨hpm.next (by omega) na nb, kb⟩, H23.pm (by repeat constructor)⟩, by dsimp only; rw [List.length_append, List.length_singleton]; omega⟩
                · have c2p := of_n_f c2
                  refine wc_exit ?_
                  first
                    | exact ⟨(ms, (A10, z10), a2, bm), (sc rfl (sc rfl (sc rfl (sc rfl (sc rfl (sc rfl (sc rfl (sc rfl (sc rfl (sc rfl (sc rfl (sn _)))))))))))), ⟨hpm, ha2, fun _ => by dsimp only; omega⟩, H⟩
                    | exact ⟨(ms, (A10, z10), a2, bm), (sc rfl (sc rfl (sc rfl (sc rfl (sc rfl (sc rfl (sc rfl (sc rfl (sc rfl (sc rfl (sc rfl (sn _)))))))))))), ⟨hpm, ha2, fun hb => absurd (hb.symm.trans c2p) Bool.noConfusion⟩, H⟩
              · have g51p := of_decide_eq_false g51
                refine wl_off rfl rfl g51 rfl ?_
                refine wl_off rfl rfl g51 rfl ?_
                refine wl_v rfl rfl rfl (v_pick_f rfl g51 rfl) ?_
                refine wl_nil ?_
                refine wc_cond_f rfl ?_
                refine wc_exit ?_
                first
                  | exact ⟨(ms, (A10, z10), a2, bm), (sc rfl (sc rfl (sc rfl (sc rfl (sc rfl (sc rfl (sc rfl (sc rfl (sc rfl (sc rfl (sc rfl (sn _)))))))))))), ⟨hpm, ha2, fun _ => by dsimp only; omega⟩, H⟩
                  | exact ⟨(ms, (A10, z10), a2, bm), (sc rfl (sc rfl (sc rfl (sc rfl (sc rfl (sc rfl (sc rfl (sc rfl (sc rfl (sc rfl (sc rfl (sn _)))))))))))), ⟨hpm, ha2, fun hb => absurd (hb.symm.trans c2p) Bool.noConfusion⟩, H⟩
            · rintro ⟨ms, ⟨A10, z10⟩, a2, bm⟩ Wm ⟨⟨hpm, ha2, hmk⟩, H⟩
              dsimp only at hpm ha2 hmk H ⊢
              refine wc_cut (σ := List Int × (Option Addr × Nat) × Nat × Bool) (fun s => [(0, .slice A bs.length c), (2, .pointer (some ⟨b2, 0, none⟩)), (4, .pointer (some ⟨b4, 0, none⟩)), (8, .pointer (some ⟨b8, 0, none⟩)), (5, .int .i64 q1), (6, .int .i64 q2), (7, .int .i64 q3), (9, .int .i64 t.mv.length), (10, .slice A10 ms.length z10), (11, .slice s.2.1.1 s.1.length s.2.1.2), (14, .int .i64 s.1.length)]) (fun s W => (PG q3 (bs.drop a2) bm s.1 (bs.drop s.2.2.1) s.2.2.2 ∧ s.2.2.1 ≤ bs.length ∧ (s.2.2.2 = false → q3 ≤ s.1.length)) ∧ Holds w [Row (fInt .i64) 3 (.slice s.2.1.1 s.1.length s.2.1.2) s.1, Row fMv 48 (.slice A10 ms.length z10) ms, RR fMv 38 48 v1 t.mv, RR (fInt .i64) 39 3 v2 t.go, Blk b8 25 [v1, v2], Blk b4 115 [.slice A bs.length c, .int .i64 s.2.2.1, .bool s.2.2.2], Blk b2 25 [.slice none 0 0, .slice none 0 0]] W) ?_ ?_
              · refine wc_seq ?_
                refine wc_region ?_
                refine wl_v rfl rfl rfl (v_assign rfl) ?_
                refine wl_nil ?_
                refine wc_block ?_
                refine wc_loop (σ := List Int × (Option Addr × Nat) × Nat × Bool) (fun s => [(0, .slice A bs.length c), (2, .pointer (some ⟨b2, 0, none⟩)), (4, .pointer (some ⟨b4, 0, none⟩)), (8, .pointer (some ⟨b8, 0, none⟩)), (5, .int .i64 q1), (6, .int .i64 q2), (7, .int .i64 q3), (9, .int .i64 t.mv.length), (10, .slice A10 ms.length z10), (11, .slice s.2.1.1 s.1.length s.2.1.2), (14, .int .i64 s.1.length)]) (fun s W => (PG q3 (bs.drop a2) bm s.1 (bs.drop s.2.2.1) s.2.2.2 ∧ s.2.2.1 ≤ bs.length) ∧ Holds w [Row (fInt .i64) 3 (.slice s.2.1.1 s.1.length s.2.1.2) s.1, Row fMv 48 (.slice A10 ms.length z10) ms, RR fMv 38 48 v1 t.mv, RR (fInt .i64) 39 3 v2 t.go, Blk b8 25 [v1, v2], Blk b4 115 [.slice A bs.length c, .int .i64 s.2.2.1, .bool s.2.2.2], Blk b2 25 [.slice none 0 0, .slice none 0 0]] W) (fun s => bs.length + 2 - s.1.length) ([], (none, 0), a2, bm) (sc rfl (sc rfl (sc rfl (sc rfl (sc rfl (sc rfl (sc rfl (sc rfl (sc rfl (sc rfl (sc rfl (sn _)))))))))))) ⟨⟨PG.start q3 bm hpm.byt, ha2⟩, (H.nilrow 3 1).pm (by repeat constructor)⟩ ?_
                rintro ⟨gs, ⟨A11, z11⟩, a3, bg⟩ W2 ⟨⟨hpg, ha3⟩, H⟩
                dsimp only at hpg ha3 H ⊢
                have hgs := hpg.sz
                have hd2 : (bs.drop a2).length = bs.length - a2 := List.length_drop ..
                refine wc_seq ?_
                refine wc_seq ?_
                refine wc_region ?_
                refine wl_v rfl rfl rfl (v_move rfl) ?_
                refine wl_v rfl rfl rfl (v_move rfl) ?_
                refine wl_v rfl rfl rfl (v_lss rfl rfl) ?_
                refine wl_v rfl rfl rfl (v_move rfl) ?_
                refine wl_guard rfl rfl rfl (fun g69 => ?_) (fun g69 => ?_)
                · have g69p := of_decide_eq_true g69
                  refine wl_v rfl rfl rfl (v_fb (o2 := 2) fa115_2 rfl rfl) ?_
                  refine wl_on' rfl rfl g69 ?_
                  refine wl_v rfl rfl rfl (v_load one4 rfl (H.at (by repeat constructor) rfl)) ?_
                  refine wl_on' rfl rfl g69 ?_
                  refine wl_v rfl rfl rfl (v_not rfl) ?_
                  refine wl_v rfl rfl rfl (v_pick_t rfl g69 rfl) ?_
                  refine wl_nil ?_
                  refine wc_cond rfl (fun c3 => ?_) (fun c3 => ?_)
                  · have c3p := of_n_t c3
                    subst c3p
                    refine wc_skip ?_
                    refine wc_seq ?_
                    refine wc_block ?_
                    refine wc_region ?_
                    refine wl_v rfl rfl rfl (v_move rfl) ?_
                    refine wl_call en55 rfl rfl (next_calls (b := b4) (bs := bs) (a := a3) (bad := false) (c := c) (LL := fun x => [Row (fInt .i64) 3 (.slice A11 gs.length z11) gs, Row fMv 48 (.slice A10 ms.length z10) ms, RR fMv 38 48 v1 t.mv, RR (fInt .i64) 39 3 v2 t.go, Blk b8 25 [v1, v2], Blk b4 115 x, Blk b2 25 [.slice none 0 0, .slice none 0 0]]) (fun x y => by repeat constructor) hr hB (by omega) ha3 H) ?_
                    rintro _ w24 ⟨rfl, Hc77⟩
                    have na := nxtS_nx (a := a3) false hB ha3
                    obtain ⟨⟨qa, pa, bada⟩, hqa⟩ : ∃ q, nxtS bs a3 false = q := ⟨_, rfl⟩
                    rw [hqa] at na Hc77 ⊢
                    dsimp only at na Hc77 ⊢
                    obtain ⟨na, ka⟩ := na
                    have lna := na.le
                    refine wl_v rfl rfl rfl (v_subi rfl rfl (by omega)) ?_
                    refine wl_slit (v := .int .i64 0) (z := [.int .i64 0]) (cs := [.int .i64 ((qa : Int) - 1)]) (sz := 1) Hc77 rfl Try.underlying39 sz3 zv3 (by decide) (by decide) (by kernel_rfl) rfl (by repeat constructor) ?_
                    intro b79 w25 hb79 H25 hs25
                    refine wl_app1 (f := fInt .i64) (xs := gs) (y' := (qa : Int) - 1) H25 (fun v' => (by repeat constructor)) (by repeat constructor) rfl Try.underlying39 info3 rfl (by decide) rfl rfl rfl (by omega) (by decide) ?_
                    intro A80 z80 w26 H26 hs26
                    refine wl_v rfl rfl rfl (v_assign rfl) ?_
                    refine wl_nil ?_
                    refine wc_region ?_
                    refine wl_v rfl rfl rfl (v_move rfl) ?_
                    refine wl_v rfl rfl rfl (v_addi rfl rfl (by omega)) ?_
                    refine wl_v rfl rfl rfl (v_assign rfl) ?_
                    refine wl_nil ?_
                    exact ⟨(gs ++ [(qa : Int) - 1], (A80, z80), pa, bada), by rw [show ((gs ++ [(qa : Int) - 1]).length : Int) = (gs.length : Int) + 1 by simp]; exact (sc rfl (sc rfl (sc rfl (sc rfl (sc rfl (sc rfl (sc rfl (sc rfl (sc rfl (sc rfl (sc rfl (sn _)))))))))))), ⟨⟨hpg.next (by omega) na, ka⟩, H26.pm (by repeat constructor)⟩, by dsimp only; rw [List.length_append, List.length_singleton]; omega⟩
                  · have c3p := of_n_f c3
                    refine wc_exit ?_
                    first
                      | exact ⟨(gs, (A11, z11), a3, bg), (sc rfl (sc rfl (sc rfl (sc rfl (sc rfl (sc rfl (sc rfl (sc rfl (sc rfl (sc rfl (sc rfl (sn _)))))))))))), ⟨hpg, ha3, fun _ => by dsimp only; omega⟩, H⟩
                      | exact ⟨(gs, (A11, z11), a3, bg), (sc rfl (sc rfl (sc rfl (sc rfl (sc rfl (sc rfl (sc rfl (sc rfl (sc rfl (sc rfl (sc rfl (sn _)))))))))))), ⟨hpg, ha3, fun hb => absurd (hb.symm.trans c3p) Bool.noConfusion⟩, H⟩
                · have g69p := of_decide_eq_false g69
                  refine wl_off rfl rfl g69 rfl ?_
                  refine wl_off rfl rfl g69 rfl ?_
                  refine wl_v rfl rfl rfl (v_pick_f rfl g69 rfl) ?_
                  refine wl_nil ?_
                  refine wc_cond_f rfl ?_
                  refine wc_exit ?_
                  first
                    | exact ⟨(gs, (A11, z11), a3, bg), (sc rfl (sc rfl (sc rfl (sc rfl (sc rfl (sc rfl (sc rfl (sc rfl (sc rfl (sc rfl (sc rfl (sn _)))))))))))), ⟨hpg, ha3, fun _ => by dsimp only; omega⟩, H⟩
                    | exact ⟨(gs, (A11, z11), a3, bg), (sc rfl (sc rfl (sc rfl (sc rfl (sc rfl (sc rfl (sc rfl (sc rfl (sc rfl (sc rfl (sc rfl (sn _)))))))))))), ⟨hpg, ha3, fun hb => absurd (hb.symm.trans c3p) Bool.noConfusion⟩, H⟩
              · rintro ⟨gs, ⟨A11, z11⟩, a3, bg⟩ Wm ⟨⟨hpg, ha3, hgk⟩, H⟩
                dsimp only at hpg ha3 hgk H ⊢
                refine wc_seq ?_
                refine wc_seq ?_
                refine wc_region ?_
                refine wl_v rfl rfl rfl (v_fb (o2 := 2) fa115_2 rfl rfl) ?_
                refine wl_v rfl rfl rfl (v_load one4 rfl (H.at (by repeat constructor) rfl)) ?_
                refine wl_nil ?_
                refine wc_cond rfl (fun c4 => ?_) (fun c4 => ?_)
                · refine wc_seq ?_
                  refine wc_region ?_
                  refine wl_v rfl rfl rfl (v_bld ba25 rfl (by repeat constructor)) ?_
                  refine wl_store (vs := [_, _]) H (by repeat constructor) sz25 rfl rfl rfl rfl rfl (by (repeat constructor)) ?_
                  intro w27 H28 hw27
                  refine wl_v rfl rfl rfl (v_assign rfl) ?_
                  refine wl_nil ?_
                  refine wc_ret ?_
                  first
                    | (have hd : readP bs = none := by
                         first
                           | exact readP_bad hB ((PR.start (bs := bs) n1 n2 n3).bad g24)
                           | (have g24' : bad3 = false := by simpa using g24
                              subst g24'
                              rw [read_eq hB]
                              exact (PR.start (bs := bs) n1 n2 n3).long (by omega))
                           | exact readP_bad hB ((hpr.next (bad4 := bg) (by omega) hpm hmk hpg hgk (fun h => ⟨h, .inr (by omega)⟩) (fun h => .inl h)).bad c4)
                           | (rw [read_eq hB, hpr.finR (by omega) ⟨by omega, by omega, by omega⟩, dec_f (fun h => g103p (by_t h.1).2)]
                              rfl)
                           | (rw [read_eq hB, hpr.finR (by omega) ⟨by omega, by omega, by omega⟩, dec_f (fun h => c5p (by rw [(by_t h.1).1, h.2]))]
                              rfl)
                       obtain ⟨d1, d2⟩ := rd_none hd
                       rw [d1, hd]
                       exact ⟨_, resc2 rfl rfl (run_loadVarN agg25 rfl (H28.ats (by repeat constructor))) rfl, _, _, rfl, ((H28.rrNil fMv 38 48).rrNil (fInt .i64) 39 3).pm (by repeat constructor)⟩)
                    | (have hby : ByOk t := by
                         rcases Classical.em (ByOk t) with h | h
                         · exact h
                         · have := (by_f h).2
                           omega
                       have hbt : Bytes (tbB t) := tbB_bytes t
                       have hd : readP bs = some t := by
                         rw [read_eq hB, hpr.finR (by omega) ⟨by omega, by omega, by omega⟩, dec_t ⟨hby, by rw [(by_t hby).1] at c5p; exact strOf_inj hbt hB c5p⟩]
                         rfl
                       obtain ⟨d1, d2⟩ := rd_some hd
                       rw [d1, hd]
                       exact ⟨_, resc2 rfl rfl (run_loadVarN agg25 rfl (H28.ats (by repeat constructor))) rfl, _, _, rfl, H28.pm (by repeat constructor)⟩)
                · subst c4
                  refine wc_skip ?_
                  refine wc_tree [0, 1, 2, 5, 6, 7, 10] (fun W => Holds w [Blk b8 25 [v1, v2], Blk b4 115 [.slice A bs.length c, .int .i64 a3, .bool false], Blk b2 25 [.slice none 0 0, .slice none 0 0]] W) mixed ?_
                  have Hd := H.drew
                  have HSd : Holds w [Blk b8 25 [v1, v2], Blk b4 115 [.slice A bs.length c, .int .i64 a3, .bool false], Blk b2 25 [.slice none 0 0, .slice none 0 0]] _ := Hd.pm (by repeat constructor)
                  refine wj_v (k := 0) rfl (by kernel_rfl) (fun _ _ _ h => h) HSd rfl rfl rfl (fun W HW => v_fb (o2 := 0) fa25_0 rfl rfl) ?_
                  refine wj_v (k := 1) rfl (by kernel_rfl) (fun _ _ _ h => h) HSd rfl rfl rfl (fun W HW => v_load one22 rfl (HW.at (by repeat constructor) rfl)) ?_
                  refine wj_v (k := 2) rfl (by kernel_rfl) (fun _ _ _ h => h) HSd rfl rfl rfl (fun W HW => v_move rfl) ?_
                  refine wj_v (k := 5) rfl (by kernel_rfl) (fun _ _ _ h => h) HSd rfl rfl rfl (fun W HW => v_fb (o2 := 1) fa25_1 rfl rfl) ?_
                  refine wj_v (k := 6) rfl (by kernel_rfl) (fun _ _ _ h => h) HSd rfl rfl rfl (fun W HW => v_load one23 rfl (HW.at (by repeat constructor) rfl)) ?_
                  refine wj_v (k := 7) rfl (by kernel_rfl) (fun _ _ _ h => h) HSd rfl rfl rfl (fun W HW => v_move rfl) ?_
                  refine wj_2 (k := 3) (k2 := 8) rfl rfl (by kernel_rfl) ?_ ?_
                  · refine wl_slit (v := .slice none 0 0) (z := [.slice none 0 0]) (cs := [.slice A10 ms.length z10]) (sz := 1) Hd rfl Try.underlying22 sz38 zv38 (by decide) (by decide) (by kernel_rfl) rfl (by repeat constructor) ?_
                    intro b87 w29 hb87 H29 hs29
                    have HS30 : Holds w [Blk b8 25 [v1, v2], Blk b4 115 [.slice A bs.length c, .int .i64 a3, .bool false], Blk b2 25 [.slice none 0 0, .slice none 0 0]] _ := H29.pm (by repeat constructor)
                    refine wl_nil (tn ⟨fun _ => HS30, ?_⟩)
                    refine wj_2 (k := 4) (k2 := 8) rfl rfl (by kernel_rfl) ?_ ?_
                    · refine wl_appRR (f := fMv) (e := 38) (e2 := 48) (v := v1) (u := .slice A10 ms.length z10) (xs := ms) (xss := t.mv) H29 (by repeat constructor) (by repeat constructor) (H29.at (by repeat constructor) rfl) rfl Try.underlying22 info38 rfl rfl rfl (by omega) (by decide) ?_
                      intro A88 z88 w31 H31 hs31
                      have HS32 : Holds w [Blk b8 25 [v1, v2], Blk b4 115 [.slice A bs.length c, .int .i64 a3, .bool false], Blk b2 25 [.slice none 0 0, .slice none 0 0]] _ := H31.pm (by repeat constructor)
                      refine wl_nil (tn ⟨fun _ => HS32, ?_⟩)
                      refine wj_v (k := 10) rfl (by kernel_rfl) (fun _ _ _ h => h) HS32 rfl rfl rfl (fun W HW => v_fb (o2 := 0) fa25_0 rfl rfl) ?_
                      refine wj_t (k := 8) rfl (by kernel_rfl) ?_
                      refine wl_slit (v := .slice none 0 0) (z := [.slice none 0 0]) (cs := [.slice A11 gs.length z11]) (sz := 1) H31 rfl Try.underlying23 sz39 zv39 (by decide) (by decide) (by kernel_rfl) rfl (by repeat constructor) ?_
                      intro b92 w33 hb92 H33 hs33
                      have HS34 : Holds w [Blk b8 25 [v1, v2], Blk b4 115 [.slice A bs.length c, .int .i64 a3, .bool false], Blk b2 25 [.slice none 0 0, .slice none 0 0]] _ := H33.pm (by repeat constructor)
                      refine wl_nil (tn ⟨fun _ => HS34, ?_⟩)
                      refine wj_t (k := 9) rfl (by kernel_rfl) ?_
                      refine wl_appRR (f := fInt .i64) (e := 39) (e2 := 3) (v := v2) (u := .slice A11 gs.length z11) (xs := gs) (xss := t.go) H33 (by repeat constructor) (by repeat constructor) (H33.at (by repeat constructor) rfl) rfl Try.underlying23 info39 rfl rfl rfl (by have := hpr.go; omega) (by decide) ?_
                      intro A93 z93 w35 H35 hs35
                      have HS36 : Holds w [Blk b8 25 [v1, v2], Blk b4 115 [.slice A bs.length c, .int .i64 a3, .bool false], Blk b2 25 [.slice none 0 0, .slice none 0 0]] _ := H35.pm (by repeat constructor)
                      refine wl_nil (tn ⟨fun _ => HS36, ?_⟩)
                      refine wj_t (k := 11) rfl (by kernel_rfl) ?_
                      refine wl_store (vs := [_]) H35 (by repeat constructor) sz22 rfl rfl rfl rfl rfl (by (repeat constructor)) ?_
                      intro w37 H38 hw37
                      refine wl_nil (tn ⟨fun hlt => absurd hlt (by rw [show allH _ _ _ = true by kernel_rfl]; simp), ?_⟩)
                      refine wj_t (k := 12) rfl (by kernel_rfl) ?_
                      refine wl_v rfl rfl rfl (v_fb (o2 := 1) fa25_1 rfl rfl) ?_
                      refine wl_nil (tn ⟨fun hlt => absurd hlt (by rw [show allH _ _ _ = true by kernel_rfl]; simp), ?_⟩)
                      refine wj_t (k := 13) rfl (by kernel_rfl) ?_
                      refine wl_store (vs := [_]) H38 (by repeat constructor) sz23 rfl rfl rfl rfl rfl (by (repeat constructor)) ?_
                      intro w41 H42 hw41
                      refine wl_nil (tn ⟨fun hlt => absurd hlt (by rw [show allH _ _ _ = true by kernel_rfl]; simp), ?_⟩)
                      refine wj_done (by kernel_rfl) ?_
                      refine wc_region ?_
                      refine wl_v rfl rfl rfl (v_move rfl) ?_
                      refine wl_v rfl rfl rfl (v_addi rfl rfl (by omega)) ?_
                      refine wl_v rfl rfl rfl (v_assign rfl) ?_
                      refine wl_nil ?_
                      exact ⟨(⟨t.mv ++ [ms], t.go ++ [gs]⟩, a3), by rw [show ((t.mv ++ [ms]).length : Int) = (t.mv.length : Int) + 1 by simp]; exact (sc rfl (sc rfl (sc rfl (sc rfl (sc rfl (sc rfl (sc rfl (sc rfl (sn _))))))))), ⟨⟨hpr.next (by omega) hpm hmk hpg hgk (fun h => ⟨h, .inr (by omega)⟩) (fun h => .inl h), ha3⟩, _, _, H42.pm (by repeat constructor)⟩, by dsimp only; rw [List.length_append, List.length_singleton]; omega⟩
                    · refine wl_slit (v := .slice none 0 0) (z := [.slice none 0 0]) (cs := [.slice A11 gs.length z11]) (sz := 1) H29 rfl Try.underlying23 sz39 zv39 (by decide) (by decide) (by kernel_rfl) rfl (by repeat constructor) ?_
                      intro b92 w44 hb92 H44 hs44
                      have HS45 : Holds w [Blk b8 25 [v1, v2], Blk b4 115 [.slice A bs.length c, .int .i64 a3, .bool false], Blk b2 25 [.slice none 0 0, .slice none 0 0]] _ := H44.pm (by repeat constructor)
                      refine wl_nil (tn ⟨fun _ => HS45, ?_⟩)
                      refine wj_t (k := 4) rfl (by kernel_rfl) ?_
                      refine wl_appRR (f := fMv) (e := 38) (e2 := 48) (v := v1) (u := .slice A10 ms.length z10) (xs := ms) (xss := t.mv) H44 (by repeat constructor) (by repeat constructor) (H44.at (by repeat constructor) rfl) rfl Try.underlying22 info38 rfl rfl rfl (by omega) (by decide) ?_
                      intro A88 z88 w46 H46 hs46
                      have HS47 : Holds w [Blk b8 25 [v1, v2], Blk b4 115 [.slice A bs.length c, .int .i64 a3, .bool false], Blk b2 25 [.slice none 0 0, .slice none 0 0]] _ := H46.pm (by repeat constructor)
                      refine wl_nil (tn ⟨fun _ => HS47, ?_⟩)
                      refine wj_v (k := 10) rfl (by kernel_rfl) (fun _ _ _ h => h) HS47 rfl rfl rfl (fun W HW => v_fb (o2 := 0) fa25_0 rfl rfl) ?_
                      refine wj_t (k := 9) rfl (by kernel_rfl) ?_
                      refine wl_appRR (f := fInt .i64) (e := 39) (e2 := 3) (v := v2) (u := .slice A11 gs.length z11) (xs := gs) (xss := t.go) H46 (by repeat constructor) (by repeat constructor) (H46.at (by repeat constructor) rfl) rfl Try.underlying23 info39 rfl rfl rfl (by have := hpr.go; omega) (by decide) ?_
                      intro A93 z93 w48 H48 hs48
                      have HS49 : Holds w [Blk b8 25 [v1, v2], Blk b4 115 [.slice A bs.length c, .int .i64 a3, .bool false], Blk b2 25 [.slice none 0 0, .slice none 0 0]] _ := H48.pm (by repeat constructor)
                      refine wl_nil (tn ⟨fun _ => HS49, ?_⟩)
                      refine wj_t (k := 11) rfl (by kernel_rfl) ?_
                      refine wl_store (vs := [_]) H48 (by repeat constructor) sz22 rfl rfl rfl rfl rfl (by (repeat constructor)) ?_
                      intro w50 H51 hw50
                      refine wl_nil (tn ⟨fun hlt => absurd hlt (by rw [show allH _ _ _ = true by kernel_rfl]; simp), ?_⟩)
                      refine wj_t (k := 12) rfl (by kernel_rfl) ?_
                      refine wl_v rfl rfl rfl (v_fb (o2 := 1) fa25_1 rfl rfl) ?_
                      refine wl_nil (tn ⟨fun hlt => absurd hlt (by rw [show allH _ _ _ = true by kernel_rfl]; simp), ?_⟩)
                      refine wj_t (k := 13) rfl (by kernel_rfl) ?_
                      refine wl_store (vs := [_]) H51 (by repeat constructor) sz23 rfl rfl rfl rfl rfl (by (repeat constructor)) ?_
                      intro w54 H55 hw54
                      refine wl_nil (tn ⟨fun hlt => absurd hlt (by rw [show allH _ _ _ = true by kernel_rfl]; simp), ?_⟩)
                      refine wj_done (by kernel_rfl) ?_
                      refine wc_region ?_
                      refine wl_v rfl rfl rfl (v_move rfl) ?_
                      refine wl_v rfl rfl rfl (v_addi rfl rfl (by omega)) ?_
                      refine wl_v rfl rfl rfl (v_assign rfl) ?_
                      refine wl_nil ?_
                      exact ⟨(⟨t.mv ++ [ms], t.go ++ [gs]⟩, a3), by rw [show ((t.mv ++ [ms]).length : Int) = (t.mv.length : Int) + 1 by simp]; exact (sc rfl (sc rfl (sc rfl (sc rfl (sc rfl (sc rfl (sc rfl (sc rfl (sn _))))))))), ⟨⟨hpr.next (by omega) hpm hmk hpg hgk (fun h => ⟨h, .inr (by omega)⟩) (fun h => .inl h), ha3⟩, _, _, H55.pm (by repeat constructor)⟩, by dsimp only; rw [List.length_append, List.length_singleton]; omega⟩
                  · refine wl_slit (v := .slice none 0 0) (z := [.slice none 0 0]) (cs := [.slice A11 gs.length z11]) (sz := 1) Hd rfl Try.underlying23 sz39 zv39 (by decide) (by decide) (by kernel_rfl) rfl (by repeat constructor) ?_
                    intro b92 w57 hb92 H57 hs57
                    have HS58 : Holds w [Blk b8 25 [v1, v2], Blk b4 115 [.slice A bs.length c, .int .i64 a3, .bool false], Blk b2 25 [.slice none 0 0, .slice none 0 0]] _ := H57.pm (by repeat constructor)
                    refine wl_nil (tn ⟨fun _ => HS58, ?_⟩)
                    refine wj_t (k := 3) rfl (by kernel_rfl) ?_
                    refine wl_slit (v := .slice none 0 0) (z := [.slice none 0 0]) (cs := [.slice A10 ms.length z10]) (sz := 1) H57 rfl Try.underlying22 sz38 zv38 (by decide) (by decide) (by kernel_rfl) rfl (by repeat constructor) ?_
                    intro b87 w59 hb87 H59 hs59
                    have HS60 : Holds w [Blk b8 25 [v1, v2], Blk b4 115 [.slice A bs.length c, .int .i64 a3, .bool false], Blk b2 25 [.slice none 0 0, .slice none 0 0]] _ := H59.pm (by repeat constructor)
                    refine wl_nil (tn ⟨fun _ => HS60, ?_⟩)
                    refine wj_t (k := 4) rfl (by kernel_rfl) ?_
                    refine wl_appRR (f := fMv) (e := 38) (e2 := 48) (v := v1) (u := .slice A10 ms.length z10) (xs := ms) (xss := t.mv) H59 (by repeat constructor) (by repeat constructor) (H59.at (by repeat constructor) rfl) rfl Try.underlying22 info38 rfl rfl rfl (by omega) (by decide) ?_
                    intro A88 z88 w61 H61 hs61
                    have HS62 : Holds w [Blk b8 25 [v1, v2], Blk b4 115 [.slice A bs.length c, .int .i64 a3, .bool false], Blk b2 25 [.slice none 0 0, .slice none 0 0]] _ := H61.pm (by repeat constructor)
                    refine wl_nil (tn ⟨fun _ => HS62, ?_⟩)
                    refine wj_v (k := 10) rfl (by kernel_rfl) (fun _ _ _ h => h) HS62 rfl rfl rfl (fun W HW => v_fb (o2 := 0) fa25_0 rfl rfl) ?_
                    refine wj_t (k := 9) rfl (by kernel_rfl) ?_
                    refine wl_appRR (f := fInt .i64) (e := 39) (e2 := 3) (v := v2) (u := .slice A11 gs.length z11) (xs := gs) (xss := t.go) H61 (by repeat constructor) (by repeat constructor) (H61.at (by repeat constructor) rfl) rfl Try.underlying23 info39 rfl rfl rfl (by have := hpr.go; omega) (by decide) ?_
                    intro A93 z93 w63 H63 hs63
                    have HS64 : Holds w [Blk b8 25 [v1, v2], Blk b4 115 [.slice A bs.length c, .int .i64 a3, .bool false], Blk b2 25 [.slice none 0 0, .slice none 0 0]] _ := H63.pm (by repeat constructor)
                    refine wl_nil (tn ⟨fun _ => HS64, ?_⟩)
                    refine wj_t (k := 11) rfl (by kernel_rfl) ?_
                    refine wl_store (vs := [_]) H63 (by repeat constructor) sz22 rfl rfl rfl rfl rfl (by (repeat constructor)) ?_
                    intro w65 H66 hw65
                    refine wl_nil (tn ⟨fun hlt => absurd hlt (by rw [show allH _ _ _ = true by kernel_rfl]; simp), ?_⟩)
                    refine wj_t (k := 12) rfl (by kernel_rfl) ?_
                    refine wl_v rfl rfl rfl (v_fb (o2 := 1) fa25_1 rfl rfl) ?_
                    refine wl_nil (tn ⟨fun hlt => absurd hlt (by rw [show allH _ _ _ = true by kernel_rfl]; simp), ?_⟩)
                    refine wj_t (k := 13) rfl (by kernel_rfl) ?_
                    refine wl_store (vs := [_]) H66 (by repeat constructor) sz23 rfl rfl rfl rfl rfl (by (repeat constructor)) ?_
                    intro w69 H70 hw69
                    refine wl_nil (tn ⟨fun hlt => absurd hlt (by rw [show allH _ _ _ = true by kernel_rfl]; simp), ?_⟩)
                    refine wj_done (by kernel_rfl) ?_
                    refine wc_region ?_
                    refine wl_v rfl rfl rfl (v_move rfl) ?_
                    refine wl_v rfl rfl rfl (v_addi rfl rfl (by omega)) ?_
                    refine wl_v rfl rfl rfl (v_assign rfl) ?_
                    refine wl_nil ?_
                    exact ⟨(⟨t.mv ++ [ms], t.go ++ [gs]⟩, a3), by rw [show ((t.mv ++ [ms]).length : Int) = (t.mv.length : Int) + 1 by simp]; exact (sc rfl (sc rfl (sc rfl (sc rfl (sc rfl (sc rfl (sc rfl (sc rfl (sn _))))))))), ⟨⟨hpr.next (by omega) hpm hmk hpg hgk (fun h => ⟨h, .inr (by omega)⟩) (fun h => .inl h), ha3⟩, _, _, H70.pm (by repeat constructor)⟩, by dsimp only; rw [List.length_append, List.length_singleton]; omega⟩
          · have c1p := of_decide_eq_false c1
            obtain ⟨A1, z1, rfl, _⟩ := H.rr (f := fMv) (e := 38) (e2 := 48) (v := v1) (xss := t.mv) (by repeat constructor)
            obtain ⟨A2, z2, rfl, _⟩ := H.rr (f := fInt .i64) (e := 39) (e2 := 3) (v := v2) (xss := t.go) (by repeat constructor)
            refine wc_exit ?_
            refine wc_seq ?_
            refine wc_region ?_
            refine wl_v rfl rfl rfl (v_loadN agg25 rfl rfl (H.ats (by repeat constructor))) ?_
            refine wl_call en28 rfl rfl (rbytes_calls ⟨H.rrR (f := fMv) (e := 38) (e2 := 48) (A := A1) (xss := t.mv) (by repeat constructor), H.rrR (f := fInt .i64) (e := 39) (e2 := 3) (A := A2) (xss := t.go) (by repeat constructor)⟩ (hpr.tok hl)) ?_
            rintro _ w72 ⟨A98, z98, rfl, Hc⟩
            have H73 := H.call Hc
            refine wl_v rfl rfl rfl (v_move rfl) ?_
            refine wl_v rfl rfl rfl (v_extract rfl rfl) ?_
            refine wl_v rfl rfl rfl (v_extract rfl rfl) ?_
            refine wl_v rfl rfl rfl (v_assign rfl) ?_
            refine wl_v rfl rfl rfl (v_assign rfl) ?_
            refine wl_nil ?_
            refine wc_seq ?_
            refine wc_seq ?_
            refine wc_region ?_
            refine wl_v rfl rfl rfl (v_move rfl) ?_
            refine wl_v rfl rfl rfl (v_neq rfl rfl) ?_
            refine wl_v rfl rfl rfl (v_move rfl) ?_
            refine wl_guard rfl rfl rfl (fun g103 => ?_) (fun g103 => ?_)
            · have g103p := of_nd_f g103
              refine wl_v rfl rfl rfl (v_move rfl) ?_
              refine wl_on' rfl rfl g103 ?_
              refine wl_v rfl rfl rfl (v_b2s Try.underlying64 Try.underlying5 Try.underlying9 (H73.rrd (f := fInt .u8) (e := 5) (A := A98) (xs := bytesA t) (by repeat constructor)) rfl) ?_
              refine wl_on' rfl rfl g103 ?_
              refine wl_v rfl rfl rfl (v_move rfl) ?_
              refine wl_on' rfl rfl g103 ?_
              refine wl_v rfl rfl rfl (v_b2s Try.underlying64 Try.underlying5 Try.underlying9 (hr.below H73.old) rfl) ?_
              refine wl_on' rfl rfl g103 ?_
              refine wl_v rfl rfl rfl (v_neqs rfl rfl) ?_
              refine wl_v rfl rfl rfl (v_pick_f rfl g103 rfl) ?_
              refine wl_nil ?_
              refine wc_cond rfl (fun c5 => ?_) (fun c5 => ?_)
              · have c5p := of_nd_t c5
                refine wc_seq ?_
                refine wc_region ?_
                refine wl_v rfl rfl rfl (v_bld ba25 rfl (by repeat constructor)) ?_
                refine wl_store (vs := [_, _]) H73 (by repeat constructor) sz25 rfl rfl rfl rfl rfl (by (repeat constructor)) ?_
                intro w76 H77 hw76
                refine wl_v rfl rfl rfl (v_assign rfl) ?_
                refine wl_nil ?_
                refine wc_ret ?_
                first
                  | (have hd : readP bs = none := by
                       first
                         | exact readP_bad hB ((PR.start (bs := bs) n1 n2 n3).bad g24)
                         | (have g24' : bad3 = false := by simpa using g24
                            subst g24'
                            rw [read_eq hB]
                            exact (PR.start (bs := bs) n1 n2 n3).long (by omega))
                         | exact readP_bad hB ((hpr.next (bad4 := bg) (by omega) hpm hmk hpg hgk (fun h => ⟨h, .inr (by omega)⟩) (fun h => .inl h)).bad c4)
                         | (rw [read_eq hB, hpr.finR (by omega) ⟨by omega, by omega, by omega⟩, dec_f (fun h => g103p (by_t h.1).2)]
                            rfl)
                         | (rw [read_eq hB, hpr.finR (by omega) ⟨by omega, by omega, by omega⟩, dec_f (fun h => c5p (by rw [(by_t h.1).1, h.2]))]
                            rfl)
                     obtain ⟨d1, d2⟩ := rd_none hd
                     rw [d1, hd]
                     exact ⟨_, resc2 rfl rfl (run_loadVarN agg25 rfl (H77.ats (by repeat constructor))) rfl, _, _, rfl, ((H77.rrNil fMv 38 48).rrNil (fInt .i64) 39 3).pm (by repeat constructor)⟩)
                  | (have hby : ByOk t := by
                       rcases Classical.em (ByOk t) with h | h
                       · exact h
                       · have := (by_f h).2
                         omega
                     have hbt : Bytes (tbB t) := tbB_bytes t
                     have hd : readP bs = some t := by
                       rw [read_eq hB, hpr.finR (by omega) ⟨by omega, by omega, by omega⟩, dec_t ⟨hby, by rw [(by_t hby).1] at c5p; exact strOf_inj hbt hB c5p⟩]
                       rfl
                     obtain ⟨d1, d2⟩ := rd_some hd
                     rw [d1, hd]
                     exact ⟨_, resc2 rfl rfl (run_loadVarN agg25 rfl (H77.ats (by repeat constructor))) rfl, _, _, rfl, H77.pm (by repeat constructor)⟩)
              · have c5p := of_nd_f c5
                refine wc_skip ?_
                refine wc_seq ?_
                refine wc_region ?_
                refine wl_v rfl rfl rfl (v_loadN agg25 rfl rfl (H73.ats (by repeat constructor))) ?_
                refine wl_store (vs := [_, _]) H73 (by repeat constructor) sz25 rfl rfl rfl rfl rfl (by (repeat constructor)) ?_
                intro w78 H79 hw78
                refine wl_v rfl rfl rfl (v_assign rfl) ?_
                refine wl_nil ?_
                refine wc_ret ?_
                first
                  | (have hd : readP bs = none := by
                       first
                         | exact readP_bad hB ((PR.start (bs := bs) n1 n2 n3).bad g24)
                         | (have g24' : bad3 = false := by simpa using g24
                            subst g24'
                            rw [read_eq hB]
                            exact (PR.start (bs := bs) n1 n2 n3).long (by omega))
                         | exact readP_bad hB ((hpr.next (bad4 := bg) (by omega) hpm hmk hpg hgk (fun h => ⟨h, .inr (by omega)⟩) (fun h => .inl h)).bad c4)
                         | (rw [read_eq hB, hpr.finR (by omega) ⟨by omega, by omega, by omega⟩, dec_f (fun h => g103p (by_t h.1).2)]
                            rfl)
                         | (rw [read_eq hB, hpr.finR (by omega) ⟨by omega, by omega, by omega⟩, dec_f (fun h => c5p (by rw [(by_t h.1).1, h.2]))]
                            rfl)
                     obtain ⟨d1, d2⟩ := rd_none hd
                     rw [d1, hd]
                     exact ⟨_, resc2 rfl rfl (run_loadVarN agg25 rfl (H79.ats (by repeat constructor))) rfl, _, _, rfl, ((H79.rrNil fMv 38 48).rrNil (fInt .i64) 39 3).pm (by repeat constructor)⟩)
                  | (have hby : ByOk t := by
                       rcases Classical.em (ByOk t) with h | h
                       · exact h
                       · have := (by_f h).2
                         omega
                     have hbt : Bytes (tbB t) := tbB_bytes t
                     have hd : readP bs = some t := by
                       rw [read_eq hB, hpr.finR (by omega) ⟨by omega, by omega, by omega⟩, dec_t ⟨hby, by rw [(by_t hby).1] at c5p; exact strOf_inj hbt hB c5p⟩]
                       rfl
                     obtain ⟨d1, d2⟩ := rd_some hd
                     rw [d1, hd]
                     exact ⟨_, resc2 rfl rfl (run_loadVarN agg25 rfl (H79.ats (by repeat constructor))) rfl, _, _, rfl, H79.pm (by repeat constructor)⟩)
            · have g103p := of_nd_t g103
              refine wl_off rfl rfl g103 rfl ?_
              refine wl_off rfl rfl g103 rfl ?_
              refine wl_off rfl rfl g103 rfl ?_
              refine wl_off rfl rfl g103 rfl ?_
              refine wl_v rfl rfl rfl (v_pick_t rfl g103 rfl) ?_
              refine wl_nil ?_
              refine wc_cond_t rfl ?_
              refine wc_seq ?_
              refine wc_region ?_
              refine wl_v rfl rfl rfl (v_bld ba25 rfl (by repeat constructor)) ?_
              refine wl_store (vs := [_, _]) H73 (by repeat constructor) sz25 rfl rfl rfl rfl rfl (by (repeat constructor)) ?_
              intro w80 H81 hw80
              refine wl_v rfl rfl rfl (v_assign rfl) ?_
              refine wl_nil ?_
              refine wc_ret ?_
              first
                | (have hd : readP bs = none := by
                     first
                       | exact readP_bad hB ((PR.start (bs := bs) n1 n2 n3).bad g24)
                       | (have g24' : bad3 = false := by simpa using g24
                          subst g24'
                          rw [read_eq hB]
                          exact (PR.start (bs := bs) n1 n2 n3).long (by omega))
                       | exact readP_bad hB ((hpr.next (bad4 := bg) (by omega) hpm hmk hpg hgk (fun h => ⟨h, .inr (by omega)⟩) (fun h => .inl h)).bad c4)
                       | (rw [read_eq hB, hpr.finR (by omega) ⟨by omega, by omega, by omega⟩, dec_f (fun h => g103p (by_t h.1).2)]
                          rfl)
                       | (rw [read_eq hB, hpr.finR (by omega) ⟨by omega, by omega, by omega⟩, dec_f (fun h => c5p (by rw [(by_t h.1).1, h.2]))]
                          rfl)
                   obtain ⟨d1, d2⟩ := rd_none hd
                   rw [d1, hd]
                   exact ⟨_, resc2 rfl rfl (run_loadVarN agg25 rfl (H81.ats (by repeat constructor))) rfl, _, _, rfl, ((H81.rrNil fMv 38 48).rrNil (fInt .i64) 39 3).pm (by repeat constructor)⟩)
                | (have hby : ByOk t := by
                     rcases Classical.em (ByOk t) with h | h
                     · exact h
                     · have := (by_f h).2
                       omega
                   have hbt : Bytes (tbB t) := tbB_bytes t
                   have hd : readP bs = some t := by
                     rw [read_eq hB, hpr.finR (by omega) ⟨by omega, by omega, by omega⟩, dec_t ⟨hby, by rw [(by_t hby).1] at c5p; exact strOf_inj hbt hB c5p⟩]
                     rfl
                   obtain ⟨d1, d2⟩ := rd_some hd
                   rw [d1, hd]
                   exact ⟨_, resc2 rfl rfl (run_loadVarN agg25 rfl (H81.ats (by repeat constructor))) rfl, _, _, rfl, H81.pm (by repeat constructor)⟩)
      · have g36p := of_decide_eq_true g36
        refine wl_off rfl rfl g36 rfl ?_
        refine wl_off rfl rfl g36 rfl ?_
        refine wl_off rfl rfl g36 rfl ?_
        refine wl_v rfl rfl rfl (v_pick_t rfl g36 rfl) ?_
        refine wl_nil ?_
        refine wc_cond_t rfl ?_
        refine wc_seq ?_
        refine wc_region ?_
        refine wl_v rfl rfl rfl (v_bld ba25 rfl (by repeat constructor)) ?_
        refine wl_store (vs := [_, _]) Hc21 (by repeat constructor) sz25 rfl rfl rfl rfl rfl (by (repeat constructor)) ?_
        intro w82 H83 hw82
        refine wl_v rfl rfl rfl (v_assign rfl) ?_
        refine wl_nil ?_
        refine wc_ret ?_
        first
          | (have hd : readP bs = none := by
               first
                 | exact readP_bad hB ((PR.start (bs := bs) n1 n2 n3).bad g24)
                 | (have g24' : bad3 = false := by simpa using g24
                    subst g24'
                    rw [read_eq hB]
                    exact (PR.start (bs := bs) n1 n2 n3).long (by omega))
                 | exact readP_bad hB ((hpr.next (bad4 := bg) (by omega) hpm hmk hpg hgk (fun h => ⟨h, .inr (by omega)⟩) (fun h => .inl h)).bad c4)
                 | (rw [read_eq hB, hpr.finR (by omega) ⟨by omega, by omega, by omega⟩, dec_f (fun h => g103p (by_t h.1).2)]
                    rfl)
                 | (rw [read_eq hB, hpr.finR (by omega) ⟨by omega, by omega, by omega⟩, dec_f (fun h => c5p (by rw [(by_t h.1).1, h.2]))]
                    rfl)
             obtain ⟨d1, d2⟩ := rd_none hd
             rw [d1, hd]
             exact ⟨_, resc2 rfl rfl (run_loadVarN agg25 rfl (H83.ats (by repeat constructor))) rfl, _, _, rfl, ((H83.rrNil fMv 38 48).rrNil (fInt .i64) 39 3).pm (by repeat constructor)⟩)
          | (have hby : ByOk t := by
               rcases Classical.em (ByOk t) with h | h
               · exact h
               · have := (by_f h).2
                 omega
             have hbt : Bytes (tbB t) := tbB_bytes t
             have hd : readP bs = some t := by
               rw [read_eq hB, hpr.finR (by omega) ⟨by omega, by omega, by omega⟩, dec_t ⟨hby, by rw [(by_t hby).1] at c5p; exact strOf_inj hbt hB c5p⟩]
               rfl
             obtain ⟨d1, d2⟩ := rd_some hd
             rw [d1, hd]
             exact ⟨_, resc2 rfl rfl (run_loadVarN agg25 rfl (H83.ats (by repeat constructor))) rfl, _, _, rfl, H83.pm (by repeat constructor)⟩)
    · have g30p := of_decide_eq_true g30
      refine wl_off rfl rfl g30 rfl ?_
      refine wl_off rfl rfl g30 rfl ?_
      refine wl_off rfl rfl g30 rfl ?_
      refine wl_v rfl rfl rfl (v_pick_t rfl g30 rfl) ?_
      refine wl_v rfl rfl rfl (v_move rfl) ?_
      refine wl_off rfl rfl rfl rfl ?_
      refine wl_off rfl rfl rfl rfl ?_
      refine wl_off rfl rfl rfl rfl ?_
      refine wl_off rfl rfl rfl rfl ?_
      refine wl_v rfl rfl rfl (v_pick_t rfl rfl rfl) ?_
      refine wl_nil ?_
      refine wc_cond_t rfl ?_
      refine wc_seq ?_
      refine wc_region ?_
      refine wl_v rfl rfl rfl (v_bld ba25 rfl (by repeat constructor)) ?_
      refine wl_store (vs := [_, _]) Hc21 (by repeat constructor) sz25 rfl rfl rfl rfl rfl (by (repeat constructor)) ?_
      intro w84 H85 hw84
      refine wl_v rfl rfl rfl (v_assign rfl) ?_
      refine wl_nil ?_
      refine wc_ret ?_
      first
        | (have hd : readP bs = none := by
             first
               | exact readP_bad hB ((PR.start (bs := bs) n1 n2 n3).bad g24)
               | (have g24' : bad3 = false := by simpa using g24
                  subst g24'
                  rw [read_eq hB]
                  exact (PR.start (bs := bs) n1 n2 n3).long (by omega))
               | exact readP_bad hB ((hpr.next (bad4 := bg) (by omega) hpm hmk hpg hgk (fun h => ⟨h, .inr (by omega)⟩) (fun h => .inl h)).bad c4)
               | (rw [read_eq hB, hpr.finR (by omega) ⟨by omega, by omega, by omega⟩, dec_f (fun h => g103p (by_t h.1).2)]
                  rfl)
               | (rw [read_eq hB, hpr.finR (by omega) ⟨by omega, by omega, by omega⟩, dec_f (fun h => c5p (by rw [(by_t h.1).1, h.2]))]
                  rfl)
           obtain ⟨d1, d2⟩ := rd_none hd
           rw [d1, hd]
           exact ⟨_, resc2 rfl rfl (run_loadVarN agg25 rfl (H85.ats (by repeat constructor))) rfl, _, _, rfl, ((H85.rrNil fMv 38 48).rrNil (fInt .i64) 39 3).pm (by repeat constructor)⟩)
        | (have hby : ByOk t := by
             rcases Classical.em (ByOk t) with h | h
             · exact h
             · have := (by_f h).2
               omega
           have hbt : Bytes (tbB t) := tbB_bytes t
           have hd : readP bs = some t := by
             rw [read_eq hB, hpr.finR (by omega) ⟨by omega, by omega, by omega⟩, dec_t ⟨hby, by rw [(by_t hby).1] at c5p; exact strOf_inj hbt hB c5p⟩]
             rfl
           obtain ⟨d1, d2⟩ := rd_some hd
           rw [d1, hd]
           exact ⟨_, resc2 rfl rfl (run_loadVarN agg25 rfl (H85.ats (by repeat constructor))) rfl, _, _, rfl, H85.pm (by repeat constructor)⟩)
  · refine wl_off rfl rfl g24 rfl ?_
    refine wl_off rfl rfl g24 rfl ?_
    refine wl_off rfl rfl g24 rfl ?_
    refine wl_v rfl rfl rfl (v_pick_t rfl g24 rfl) ?_
    refine wl_v rfl rfl rfl (v_move rfl) ?_
    refine wl_off rfl rfl rfl rfl ?_
    refine wl_off rfl rfl rfl rfl ?_
    refine wl_off rfl rfl rfl rfl ?_
    refine wl_off rfl rfl rfl rfl ?_
    refine wl_v rfl rfl rfl (v_pick_t rfl rfl rfl) ?_
    refine wl_v rfl rfl rfl (v_move rfl) ?_
    refine wl_off rfl rfl rfl rfl ?_
    refine wl_off rfl rfl rfl rfl ?_
    refine wl_off rfl rfl rfl rfl ?_
    refine wl_off rfl rfl rfl rfl ?_
    refine wl_v rfl rfl rfl (v_pick_t rfl rfl rfl) ?_
    refine wl_nil ?_
    refine wc_cond_t rfl ?_
    refine wc_seq ?_
    refine wc_region ?_
    refine wl_v rfl rfl rfl (v_bld ba25 rfl (by repeat constructor)) ?_
    refine wl_store (vs := [_, _]) Hc21 (by repeat constructor) sz25 rfl rfl rfl rfl rfl (by (repeat constructor)) ?_
    intro w86 H87 hw86
    refine wl_v rfl rfl rfl (v_assign rfl) ?_
    refine wl_nil ?_
    refine wc_ret ?_
    first
      | (have hd : readP bs = none := by
           first
             | exact readP_bad hB ((PR.start (bs := bs) n1 n2 n3).bad g24)
             | (have g24' : bad3 = false := by simpa using g24
                subst g24'
                rw [read_eq hB]
                exact (PR.start (bs := bs) n1 n2 n3).long (by omega))
             | exact readP_bad hB ((hpr.next (bad4 := bg) (by omega) hpm hmk hpg hgk (fun h => ⟨h, .inr (by omega)⟩) (fun h => .inl h)).bad c4)
             | (rw [read_eq hB, hpr.finR (by omega) ⟨by omega, by omega, by omega⟩, dec_f (fun h => g103p (by_t h.1).2)]
                rfl)
             | (rw [read_eq hB, hpr.finR (by omega) ⟨by omega, by omega, by omega⟩, dec_f (fun h => c5p (by rw [(by_t h.1).1, h.2]))]
                rfl)
         obtain ⟨d1, d2⟩ := rd_none hd
         rw [d1, hd]
         exact ⟨_, resc2 rfl rfl (run_loadVarN agg25 rfl (H87.ats (by repeat constructor))) rfl, _, _, rfl, ((H87.rrNil fMv 38 48).rrNil (fInt .i64) 39 3).pm (by repeat constructor)⟩)
      | (have hby : ByOk t := by
           rcases Classical.em (ByOk t) with h | h
           · exact h
           · have := (by_f h).2
             omega
         have hbt : Bytes (tbB t) := tbB_bytes t
         have hd : readP bs = some t := by
           rw [read_eq hB, hpr.finR (by omega) ⟨by omega, by omega, by omega⟩, dec_t ⟨hby, by rw [(by_t hby).1] at c5p; exact strOf_inj hbt hB c5p⟩]
           rfl
         obtain ⟨d1, d2⟩ := rd_some hd
         rw [d1, hd]
         exact ⟨_, resc2 rfl rfl (run_loadVarN agg25 rfl (H87.ats (by repeat constructor))) rfl, _, _, rfl, H87.pm (by repeat constructor)⟩)
end Go.Proofs.Ytkpehkadammppaa.RReadW
