/- What table.Check tells. A row's default, in plain Lean. The default of a row, as the document reckons it. A table with its defaults. What table.free tells. How rows are laid over one another. Packed tables as plain data; what they say of a state and a kind. Tables packed: plain definitions. Is a table sound for a grammar? -/
import Derived.Test.YtkpehkadammppaaProg
import Derived.Test.YtkpehkadammppaaK02
import Derived.Test.YtkpehkadammppaaK01
import Derived.Test.YtkpehkadammppaaK03
import Derived.Test.YtkpehkadammppaaK07
set_option linter.unusedVariables false
set_option linter.unusedSimpArgs false
/-! What table.Check tells. -/
namespace Go.Proofs.Ytkpehkadammppaa.Chk
open Go Go.RowKit Go.Proofs.YtkpehkadammppaaFx 
theorem agg25 : Agg Try.prog 25 2 := agg_of Try.underlying25 (by kernel_rfl)
theorem agg48 : Agg Try.prog 48 2 := agg_of Try.underlying48 (by kernel_rfl)
theorem ba83 : BuildAt Try.prog 83 [.slice none 0 0, .slice none 0 0, .int .i64 0, .int .i64 0, .int .i64 0, .slice none 0 0] [(0, 2), (2, 1), (3, 1), (4, 1), (5, 1)] := build_at Try.underlying83 (by kernel_rfl) (by kernel_rfl)
theorem en36 : Enters Try.prog 36 := enters Try.func36 (by kernel_rfl) rfl
theorem en37 : Enters Try.prog 37 := enters Try.func37 (by kernel_rfl) rfl
theorem fa25_0 : FieldAt Try.prog 25 0 0 := field_at (sz := 0) Try.underlying25 rfl (by kernel_rfl) rfl
theorem fa25_1 : FieldAt Try.prog 25 1 1 := field_at (sz := 0) Try.underlying25 rfl (by kernel_rfl) rfl
theorem fa48_0 : FieldAt Try.prog 48 0 0 := field_at (sz := 0) Try.underlying48 rfl (by kernel_rfl) rfl
theorem fa48_1 : FieldAt Try.prog 48 1 1 := field_at (sz := 0) Try.underlying48 rfl (by kernel_rfl) rfl
theorem fa83_0 : FieldAt Try.prog 83 0 0 := field_at (sz := 1) Try.underlying83 rfl (by kernel_rfl) rfl
theorem fa83_1 : FieldAt Try.prog 83 1 2 := field_at (sz := 0) Try.underlying83 rfl (by kernel_rfl) rfl
theorem fa83_2 : FieldAt Try.prog 83 2 3 := field_at (sz := 0) Try.underlying83 rfl (by kernel_rfl) rfl
theorem fa83_3 : FieldAt Try.prog 83 3 4 := field_at (sz := 0) Try.underlying83 rfl (by kernel_rfl) rfl
theorem fa83_4 : FieldAt Try.prog 83 4 5 := field_at (sz := 0) Try.underlying83 rfl (by kernel_rfl) rfl
theorem mixed : Try.prog.follows .mixedOrders = true := by kernel_rfl
theorem one22 : One Try.prog 22 := one_of Try.underlying22 rfl (by kernel_rfl)
theorem one23 : One Try.prog 23 := one_of Try.underlying23 rfl (by kernel_rfl)
theorem one3 : One Try.prog 3 := one_of Try.underlying3 rfl (by kernel_rfl)
theorem one38 : One Try.prog 38 := one_of Try.underlying38 rfl (by kernel_rfl)
theorem one39 : One Try.prog 39 := one_of Try.underlying39 rfl (by kernel_rfl)
theorem one81 : One Try.prog 81 := one_of Try.underlying81 rfl (by kernel_rfl)
theorem one84 : One Try.prog 84 := one_of Try.underlying84 rfl (by kernel_rfl)
theorem sz3 : ∀ W, (sizeOf 3).run Try.prog W = .ok 1 W := size_of (by kernel_rfl)
theorem sz38 : ∀ W, (sizeOf 38).run Try.prog W = .ok 1 W := size_of (by kernel_rfl)
theorem sz39 : ∀ W, (sizeOf 39).run Try.prog W = .ok 1 W := size_of (by kernel_rfl)
theorem sz48 : ∀ W, (sizeOf 48).run Try.prog W = .ok 2 W := size_of (by kernel_rfl)
theorem sz81 : ∀ W, (sizeOf 81).run Try.prog W = .ok 1 W := size_of (by kernel_rfl)
theorem sz84 : ∀ W, (sizeOf 84).run Try.prog W = .ok 1 W := size_of (by kernel_rfl)
theorem zv48 : ∀ W, (zeroValue 48).run Try.prog W = .ok (.agg #[.int .i64 0, .int .i64 0]) W := zero_of (by kernel_rfl)
theorem zv84 : ∀ W, (zeroValue 84).run Try.prog W = .ok (.nilFunc) W := zero_of (by kernel_rfl)

set_option maxRecDepth 100000 in
theorem cmoves_calls {A B : Option Addr} {ca cb b s0 : Nat} {t : Tb} {k r p : Int} {ec : Value} {w : World} (hx : t.rd w A B) (hk : t.ok) (hs0 : s0 < t.mv.length) (hc : ∀ j v, ([.slice A t.mv.length ca, .slice B t.go.length cb, .int .i64 k, .int .i64 r, .int .i64 p, ec] : List Value)[j]? = some v → w.cell? ⟨b, j, none⟩ = some v) :
    Calls Try.prog 36 #[.pointer (some ⟨b, 0, none⟩), .int .i64 s0] w fun e w' => ∃ v, e = .returned v ∧ v = .bool (dec (((t.mv.getD s0 []).length : Int) = k ∧ ∀ j, j < (t.mv.getD s0 []).length → mvOk ((t.mv.getD s0 []).getD j mv0) t.mv.length p)) ∧ Holds w [] w' := by
  have hM := hx.m
  have hG := hx.g
  have q1 := hk.m'
  have q2 := hk.g'
  have q3 := hk.ml (i := s0) (by omega)
  refine calls_of Try.func36 rfl Try.ntmps36 rfl ?_
  have H := Holds.start w
  refine wc_seq ?_
  refine wc_region ?_
  refine wl_v rfl rfl rfl (v_assign rfl) ?_
  refine wl_nil ?_
  refine wc_seq ?_
  refine wc_seq ?_
  refine wc_still mixed (by kernel_rfl) ?_
  have Hd := H.drew
  refine ws_v rfl rfl rfl (v_move rfl) ?_
  refine ws_v rfl rfl rfl (v_nil rfl) ?_
  refine ws_v rfl rfl rfl (v_fb (o2 := 0) fa83_0 rfl rfl) ?_
  refine ws_v rfl rfl rfl (v_fb (o2 := 0) fa25_0 rfl rfl) ?_
  refine ws_v rfl rfl rfl (v_load one22 rfl (Hd.cell (hc 0 _ rfl))) ?_
  refine ws_v rfl rfl rfl (v_move rfl) ?_
  refine ws_v rfl rfl rfl (v_idx Try.underlying22 sz38 hM.ad rfl rfl (by omega) (by omega)) ?_
  obtain ⟨B15, cp15, hc15, hl15, hr15⟩ := hM.atSlN (i := s0) (by omega)
  refine ws_v rfl rfl rfl (v_load one38 rfl (Hd.cell (hc15))) ?_
  refine ws_v rfl rfl rfl (v_len Try.underlying38 rfl) ?_
  refine ws_v rfl rfl rfl (v_move rfl) ?_
  refine ws_v rfl rfl rfl (v_nil rfl) ?_
  refine ws_v rfl rfl rfl (v_fb (o2 := 2) fa83_1 rfl rfl) ?_
  refine ws_v rfl rfl rfl (v_load one3 rfl (Hd.cell (hc 2 _ rfl))) ?_
  refine ws_v rfl rfl rfl (v_neq rfl rfl) ?_
  refine ws_nil ?_
  refine wc_cond rfl (fun c0 => ?_) (fun c0 => ?_)
  ·have c0p := of_nd_t c0
   refine wc_seq ?_
   refine wc_region ?_
   refine wl_v rfl rfl rfl (v_assign rfl) ?_
   refine wl_nil ?_
   refine wc_ret ?_
   first
     | exact ⟨_, res1 rfl rfl, congrArg Value.bool (dec_t ⟨c0p, fun j hj => ha j (by omega)⟩).symm, Hd⟩
     | exact ⟨_, res1 rfl rfl, congrArg Value.bool (dec_f fun hh => c0p hh.1).symm, Hd.pm (by repeat constructor)⟩
     | exact ⟨_, res1 rfl rfl, congrArg Value.bool (dec_f fun hh => by have h5 := hh.2 i (by omega); unfold mvOk at h5; omega).symm, Hd.pm (by repeat constructor)⟩
  ·have c0p := of_nd_f c0
   refine wc_skip ?_
   refine wc_seq ?_
   refine wc_seq ?_
   refine wc_region ?_
   refine wl_v rfl rfl rfl (v_move rfl) ?_
   refine wl_v rfl rfl rfl (v_nil rfl) ?_
   refine wl_v rfl rfl rfl (v_fb (o2 := 0) fa83_0 rfl rfl) ?_
   refine wl_v rfl rfl rfl (v_fb (o2 := 0) fa25_0 rfl rfl) ?_
   refine wl_v rfl rfl rfl (v_load one22 rfl (Hd.cell (hc 0 _ rfl))) ?_
   refine wl_v rfl rfl rfl (v_move rfl) ?_
   refine wl_v rfl rfl rfl (v_idx Try.underlying22 sz38 hM.ad rfl rfl (by omega) (by omega)) ?_
   obtain ⟨B29, cp29, hc29, hl29, hr29⟩ := hM.atSlN (i := s0) (by omega)
   refine wl_v rfl rfl rfl (v_load one38 rfl (Hd.cell (hc29))) ?_
   refine wl_v rfl rfl rfl (v_len Try.underlying38 rfl) ?_
   refine wl_v rfl rfl rfl (v_move rfl) ?_
   refine wl_nil ?_
   refine wc_block ?_
   refine wc_loop (σ := Nat) (fun s => [(0, .pointer (some ⟨b, 0, none⟩)), (29, .slice B29 (t.mv.getD s0 []).length cp29), (30, .int .i64 (t.mv.getD s0 []).length), (31, .int .i64 s)]) (fun s W => s ≤ (t.mv.getD s0 []).length ∧ (∀ j, j < s → mvOk ((t.mv.getD s0 []).getD j mv0) t.mv.length p) ∧ Holds w [] W) (fun s => (t.mv.getD s0 []).length - s) 0 (sc rfl (sc rfl (sc rfl (sc rfl (sn _))))) ⟨Nat.zero_le _, upto_zero, Hd⟩ ?_
   rintro i W0 ⟨hi, ha, H⟩
   refine wc_seq ?_
   refine wc_region ?_
   refine wl_v rfl rfl rfl (v_lss rfl rfl) ?_
   refine wl_nil ?_
   refine wc_seq ?_
   refine wc_cond rfl (fun c1 => ?_) (fun c1 => ?_)
   ·have c1p := of_decide_eq_true c1
    refine wc_skip ?_
    refine wc_seq ?_
    refine wc_block ?_
    refine wc_seq ?_
    refine wc_region ?_
    refine wl_v rfl rfl rfl (v_idx Try.underlying38 sz48 hr29.ad rfl rfl (by omega) (by omega)) ?_
    refine wl_v rfl rfl rfl (v_loadN (cs := fMv.enc _) agg48 rfl rfl (fun k u hu => H.cell (hr29.atN (i := i) (k := k) mv0 (by omega) hu))) ?_
    refine wl_alloc (cs := [.int .i64 0, .int .i64 0]) H rfl zv48 rfl ?_
    intro b6 w1 hb6 H2
    refine wl_store (vs := [_, _]) H2 (by repeat constructor) sz48 rfl rfl rfl rfl rfl (by (repeat constructor)) ?_
    intro w3 H4 hw3
    refine wl_nil ?_
    refine wc_seq ?_
    refine wc_region ?_
    refine wl_v rfl rfl rfl (v_fb (o2 := 1) fa48_1 rfl rfl) ?_
    refine wl_v rfl rfl rfl (v_load one3 rfl (H4.at (by repeat constructor) rfl)) ?_
    refine wl_v rfl rfl rfl (v_eql rfl rfl) ?_
    refine wl_v rfl rfl rfl (v_assign rfl) ?_
    refine wl_nil ?_
    refine wc_seq ?_
    refine wc_seq ?_
    refine wc_region ?_
    refine wl_v rfl rfl rfl (v_fb (o2 := 0) fa48_0 rfl rfl) ?_
    refine wl_v rfl rfl rfl (v_load one3 rfl (H4.at (by repeat constructor) rfl)) ?_
    refine wl_nil ?_
    refine wc_block ?_
    refine wc_seq ?_
    refine wc_region ?_
    refine wl_v rfl rfl rfl (v_eql rfl rfl) ?_
    refine wl_v rfl rfl rfl (v_assign rfl) ?_
    refine wl_nil ?_
    refine wc_cond rfl (fun c2 => ?_) (fun c2 => ?_)
    ·have c2p := of_decide_eq_true c2
     refine wc_still mixed (by kernel_rfl) ?_
     have Hd := H4.drew
     refine ws_v rfl rfl rfl (v_fb (o2 := 1) fa48_1 rfl rfl) ?_
     refine ws_v rfl rfl rfl (v_load one3 rfl (Hd.at (by repeat constructor) rfl)) ?_
     refine ws_v rfl rfl rfl (v_geq rfl rfl) ?_
     refine ws_v rfl rfl rfl (v_move rfl) ?_
     refine ws_guard rfl rfl rfl (fun g45 => ?_) (fun g45 => ?_)
     ·have g45p := of_decide_eq_true g45
      refine ws_v rfl rfl rfl (v_fb (o2 := 1) fa48_1 rfl rfl) ?_
      refine ws_on' rfl rfl g45 ?_
      refine ws_v rfl rfl rfl (v_load one3 rfl (Hd.at (by repeat constructor) rfl)) ?_
      refine ws_on' rfl rfl g45 ?_
      refine ws_v rfl rfl rfl (v_move rfl) ?_
      refine ws_on' rfl rfl g45 ?_
      refine ws_v rfl rfl rfl (v_nil rfl) ?_
      refine ws_on' rfl rfl g45 ?_
      refine ws_v rfl rfl rfl (v_fb (o2 := 0) fa83_0 rfl rfl) ?_
      refine ws_on' rfl rfl g45 ?_
      refine ws_v rfl rfl rfl (v_fb (o2 := 0) fa25_0 rfl rfl) ?_
      refine ws_on' rfl rfl g45 ?_
      refine ws_v rfl rfl rfl (v_load one22 rfl (Hd.cell (hc 0 _ rfl))) ?_
      refine ws_on' rfl rfl g45 ?_
      refine ws_v rfl rfl rfl (v_len Try.underlying22 rfl) ?_
      refine ws_on' rfl rfl g45 ?_
      refine ws_v rfl rfl rfl (v_lss rfl rfl) ?_
      refine ws_v rfl rfl rfl (v_pick_t rfl g45 rfl) ?_
      refine ws_v rfl rfl rfl (v_assign rfl) ?_
      refine ws_nil ?_
      refine wc_seq ?_
      refine wc_region ?_
      refine wl_v rfl rfl rfl (v_move rfl) ?_
      refine wl_v rfl rfl rfl (v_not rfl) ?_
      refine wl_nil ?_
      refine wc_cond rfl (fun c6 => ?_) (fun c6 => ?_)
      ·have c6p := of_nd_t c6
       refine wc_seq ?_
       refine wc_region ?_
       refine wl_v rfl rfl rfl (v_assign rfl) ?_
       refine wl_nil ?_
       refine wc_ret ?_
       first
         | exact ⟨_, res1 rfl rfl, congrArg Value.bool (dec_t ⟨c0p, fun j hj => ha j (by omega)⟩).symm, Hd⟩
         | exact ⟨_, res1 rfl rfl, congrArg Value.bool (dec_f fun hh => c0p hh.1).symm, Hd.pm (by repeat constructor)⟩
         | exact ⟨_, res1 rfl rfl, congrArg Value.bool (dec_f fun hh => by have h5 := hh.2 i (by omega); unfold mvOk at h5; omega).symm, Hd.pm (by repeat constructor)⟩
      ·have c6p := of_nd_f c6
       refine wc_skip ?_
       refine wc_region ?_
       refine wl_v rfl rfl rfl (v_addi rfl rfl (by omega)) ?_
       refine wl_v rfl rfl rfl (v_move rfl) ?_
       refine wl_nil ?_
       exact ⟨i + 1, (sc rfl (sc rfl (sc rfl (sc rfl (sn _))))), ⟨by omega, upto_succ ha (by unfold mvOk; omega), Hd.pm (by repeat constructor)⟩, by omega⟩
     ·have g45p := of_decide_eq_false g45
      refine ws_off rfl rfl g45 rfl ?_
      refine ws_off rfl rfl g45 rfl ?_
      refine ws_off rfl rfl g45 rfl ?_
      refine ws_off rfl rfl g45 rfl ?_
      refine ws_off rfl rfl g45 rfl ?_
      refine ws_off rfl rfl g45 rfl ?_
      refine ws_off rfl rfl g45 rfl ?_
      refine ws_off rfl rfl g45 rfl ?_
      refine ws_v rfl rfl rfl (v_pick_f rfl g45 rfl) ?_
      refine ws_v rfl rfl rfl (v_assign rfl) ?_
      refine ws_nil ?_
      refine wc_seq ?_
      refine wc_region ?_
      refine wl_v rfl rfl rfl (v_move rfl) ?_
      refine wl_v rfl rfl rfl (v_not rfl) ?_
      refine wl_nil ?_
      refine wc_cond_t rfl ?_
      refine wc_seq ?_
      refine wc_region ?_
      refine wl_v rfl rfl rfl (v_assign rfl) ?_
      refine wl_nil ?_
      refine wc_ret ?_
      first
        | exact ⟨_, res1 rfl rfl, congrArg Value.bool (dec_t ⟨c0p, fun j hj => ha j (by omega)⟩).symm, Hd⟩
        | exact ⟨_, res1 rfl rfl, congrArg Value.bool (dec_f fun hh => c0p hh.1).symm, Hd.pm (by repeat constructor)⟩
        | exact ⟨_, res1 rfl rfl, congrArg Value.bool (dec_f fun hh => by have h5 := hh.2 i (by omega); unfold mvOk at h5; omega).symm, Hd.pm (by repeat constructor)⟩
    ·have c2p := of_decide_eq_false c2
     refine wc_seq ?_
     refine wc_region ?_
     refine wl_v rfl rfl rfl (v_eql rfl rfl) ?_
     refine wl_v rfl rfl rfl (v_assign rfl) ?_
     refine wl_nil ?_
     refine wc_cond rfl (fun c3 => ?_) (fun c3 => ?_)
     ·have c3p := of_decide_eq_true c3
      refine wc_still mixed (by kernel_rfl) ?_
      have Hd := H4.drew
      refine ws_v rfl rfl rfl (v_fb (o2 := 1) fa48_1 rfl rfl) ?_
      refine ws_v rfl rfl rfl (v_load one3 rfl (Hd.at (by repeat constructor) rfl)) ?_
      refine ws_v rfl rfl rfl (v_geq rfl rfl) ?_
      refine ws_v rfl rfl rfl (v_move rfl) ?_
      refine ws_guard rfl rfl rfl (fun g61 => ?_) (fun g61 => ?_)
      ·have g61p := of_decide_eq_true g61
       refine ws_v rfl rfl rfl (v_fb (o2 := 1) fa48_1 rfl rfl) ?_
       refine ws_on' rfl rfl g61 ?_
       refine ws_v rfl rfl rfl (v_load one3 rfl (Hd.at (by repeat constructor) rfl)) ?_
       refine ws_on' rfl rfl g61 ?_
       refine ws_v rfl rfl rfl (v_move rfl) ?_
       refine ws_on' rfl rfl g61 ?_
       refine ws_v rfl rfl rfl (v_nil rfl) ?_
       refine ws_on' rfl rfl g61 ?_
       refine ws_v rfl rfl rfl (v_fb (o2 := 4) fa83_3 rfl rfl) ?_
       refine ws_on' rfl rfl g61 ?_
       refine ws_v rfl rfl rfl (v_load one3 rfl (Hd.cell (hc 4 _ rfl))) ?_
       refine ws_on' rfl rfl g61 ?_
       refine ws_v rfl rfl rfl (v_lss rfl rfl) ?_
       refine ws_v rfl rfl rfl (v_pick_t rfl g61 rfl) ?_
       refine ws_v rfl rfl rfl (v_assign rfl) ?_
       refine ws_nil ?_
       refine wc_seq ?_
       refine wc_region ?_
       refine wl_v rfl rfl rfl (v_move rfl) ?_
       refine wl_v rfl rfl rfl (v_not rfl) ?_
       refine wl_nil ?_
       refine wc_cond rfl (fun c6 => ?_) (fun c6 => ?_)
       ·have c6p := of_nd_t c6
        refine wc_seq ?_
        refine wc_region ?_
        refine wl_v rfl rfl rfl (v_assign rfl) ?_
        refine wl_nil ?_
        refine wc_ret ?_
        first
          | exact ⟨_, res1 rfl rfl, congrArg Value.bool (dec_t ⟨c0p, fun j hj => ha j (by omega)⟩).symm, Hd⟩
          | exact ⟨_, res1 rfl rfl, congrArg Value.bool (dec_f fun hh => c0p hh.1).symm, Hd.pm (by repeat constructor)⟩
          | exact ⟨_, res1 rfl rfl, congrArg Value.bool (dec_f fun hh => by have h5 := hh.2 i (by omega); unfold mvOk at h5; omega).symm, Hd.pm (by repeat constructor)⟩
       ·have c6p := of_nd_f c6
        refine wc_skip ?_
        refine wc_region ?_
        refine wl_v rfl rfl rfl (v_addi rfl rfl (by omega)) ?_
        refine wl_v rfl rfl rfl (v_move rfl) ?_
        refine wl_nil ?_
        exact ⟨i + 1, (sc rfl (sc rfl (sc rfl (sc rfl (sn _))))), ⟨by omega, upto_succ ha (by unfold mvOk; omega), Hd.pm (by repeat constructor)⟩, by omega⟩
      ·have g61p := of_decide_eq_false g61
       refine ws_off rfl rfl g61 rfl ?_
       refine ws_off rfl rfl g61 rfl ?_
       refine ws_off rfl rfl g61 rfl ?_
       refine ws_off rfl rfl g61 rfl ?_
       refine ws_off rfl rfl g61 rfl ?_
       refine ws_off rfl rfl g61 rfl ?_
       refine ws_v rfl rfl rfl (v_pick_f rfl g61 rfl) ?_
       refine ws_v rfl rfl rfl (v_assign rfl) ?_
       refine ws_nil ?_
       refine wc_seq ?_
       refine wc_region ?_
       refine wl_v rfl rfl rfl (v_move rfl) ?_
       refine wl_v rfl rfl rfl (v_not rfl) ?_
       refine wl_nil ?_
       refine wc_cond_t rfl ?_
       refine wc_seq ?_
       refine wc_region ?_
       refine wl_v rfl rfl rfl (v_assign rfl) ?_
       refine wl_nil ?_
       refine wc_ret ?_
       first
         | exact ⟨_, res1 rfl rfl, congrArg Value.bool (dec_t ⟨c0p, fun j hj => ha j (by omega)⟩).symm, Hd⟩
         | exact ⟨_, res1 rfl rfl, congrArg Value.bool (dec_f fun hh => c0p hh.1).symm, Hd.pm (by repeat constructor)⟩
         | exact ⟨_, res1 rfl rfl, congrArg Value.bool (dec_f fun hh => by have h5 := hh.2 i (by omega); unfold mvOk at h5; omega).symm, Hd.pm (by repeat constructor)⟩
     ·have c3p := of_decide_eq_false c3
      refine wc_seq ?_
      refine wc_seq ?_
      refine wc_region ?_
      refine wl_v rfl rfl rfl (v_eql rfl rfl) ?_
      refine wl_v rfl rfl rfl (v_assign rfl) ?_
      refine wl_nil ?_
      refine wc_cond rfl (fun c4 => ?_) (fun c4 => ?_)
      ·have c4p := of_decide_eq_true c4
       refine wc_skip ?_
       refine wc_cond_y rfl c4 ?_
       refine wc_skip ?_
       refine wc_seq ?_
       refine wc_region ?_
       refine wl_v rfl rfl rfl (v_move rfl) ?_
       refine wl_v rfl rfl rfl (v_not rfl) ?_
       refine wl_nil ?_
       refine wc_cond rfl (fun c6 => ?_) (fun c6 => ?_)
       ·have c6p := of_nd_t c6
        refine wc_seq ?_
        refine wc_region ?_
        refine wl_v rfl rfl rfl (v_assign rfl) ?_
        refine wl_nil ?_
        refine wc_ret ?_
        first
          | exact ⟨_, res1 rfl rfl, congrArg Value.bool (dec_t ⟨c0p, fun j hj => ha j (by omega)⟩).symm, H4⟩
          | exact ⟨_, res1 rfl rfl, congrArg Value.bool (dec_f fun hh => c0p hh.1).symm, H4.pm (by repeat constructor)⟩
          | exact ⟨_, res1 rfl rfl, congrArg Value.bool (dec_f fun hh => by have h5 := hh.2 i (by omega); unfold mvOk at h5; omega).symm, H4.pm (by repeat constructor)⟩
       ·have c6p := of_nd_f c6
        refine wc_skip ?_
        refine wc_region ?_
        refine wl_v rfl rfl rfl (v_addi rfl rfl (by omega)) ?_
        refine wl_v rfl rfl rfl (v_move rfl) ?_
        refine wl_nil ?_
        exact ⟨i + 1, (sc rfl (sc rfl (sc rfl (sc rfl (sn _))))), ⟨by omega, upto_succ ha (by unfold mvOk; omega), H4.pm (by repeat constructor)⟩, by omega⟩
      ·have c4p := of_decide_eq_false c4
       refine wc_region ?_
       refine wl_v rfl rfl rfl (v_eql rfl rfl) ?_
       refine wl_v rfl rfl rfl (v_assign rfl) ?_
       refine wl_nil ?_
       refine wc_cond rfl (fun c5 => ?_) (fun c5 => ?_)
       ·have c5p := of_decide_eq_true c5
        refine wc_skip ?_
        refine wc_seq ?_
        refine wc_region ?_
        refine wl_v rfl rfl rfl (v_move rfl) ?_
        refine wl_v rfl rfl rfl (v_not rfl) ?_
        refine wl_nil ?_
        refine wc_cond rfl (fun c6 => ?_) (fun c6 => ?_)
        ·have c6p := of_nd_t c6
         refine wc_seq ?_
         refine wc_region ?_
         refine wl_v rfl rfl rfl (v_assign rfl) ?_
         refine wl_nil ?_
         refine wc_ret ?_
         first
           | exact ⟨_, res1 rfl rfl, congrArg Value.bool (dec_t ⟨c0p, fun j hj => ha j (by omega)⟩).symm, H4⟩
           | exact ⟨_, res1 rfl rfl, congrArg Value.bool (dec_f fun hh => c0p hh.1).symm, H4.pm (by repeat constructor)⟩
           | exact ⟨_, res1 rfl rfl, congrArg Value.bool (dec_f fun hh => by have h5 := hh.2 i (by omega); unfold mvOk at h5; omega).symm, H4.pm (by repeat constructor)⟩
        ·have c6p := of_nd_f c6
         refine wc_skip ?_
         refine wc_region ?_
         refine wl_v rfl rfl rfl (v_addi rfl rfl (by omega)) ?_
         refine wl_v rfl rfl rfl (v_move rfl) ?_
         refine wl_nil ?_
         exact ⟨i + 1, (sc rfl (sc rfl (sc rfl (sc rfl (sn _))))), ⟨by omega, upto_succ ha (by unfold mvOk; omega), H4.pm (by repeat constructor)⟩, by omega⟩
       ·have c5p := of_decide_eq_false c5
        refine wc_region ?_
        refine wl_v rfl rfl rfl (v_assign rfl) ?_
        refine wl_nil ?_
        refine wc_seq ?_
        refine wc_region ?_
        refine wl_v rfl rfl rfl (v_move rfl) ?_
        refine wl_v rfl rfl rfl (v_not rfl) ?_
        refine wl_nil ?_
        refine wc_cond_t rfl ?_
        refine wc_seq ?_
        refine wc_region ?_
        refine wl_v rfl rfl rfl (v_assign rfl) ?_
        refine wl_nil ?_
        refine wc_ret ?_
        first
          | exact ⟨_, res1 rfl rfl, congrArg Value.bool (dec_t ⟨c0p, fun j hj => ha j (by omega)⟩).symm, H4⟩
          | exact ⟨_, res1 rfl rfl, congrArg Value.bool (dec_f fun hh => c0p hh.1).symm, H4.pm (by repeat constructor)⟩
          | exact ⟨_, res1 rfl rfl, congrArg Value.bool (dec_f fun hh => by have h5 := hh.2 i (by omega); unfold mvOk at h5; omega).symm, H4.pm (by repeat constructor)⟩
   ·have c1p := of_decide_eq_false c1
    refine wc_exit ?_
    refine wc_seq ?_
    refine wc_region ?_
    refine wl_v rfl rfl rfl (v_assign rfl) ?_
    refine wl_nil ?_
    refine wc_ret ?_
    first
      | exact ⟨_, res1 rfl rfl, congrArg Value.bool (dec_t ⟨c0p, fun j hj => ha j (by omega)⟩).symm, H⟩
      | exact ⟨_, res1 rfl rfl, congrArg Value.bool (dec_f fun hh => c0p hh.1).symm, H.pm (by repeat constructor)⟩
      | exact ⟨_, res1 rfl rfl, congrArg Value.bool (dec_f fun hh => by have h5 := hh.2 i (by omega); unfold mvOk at h5; omega).symm, H.pm (by repeat constructor)⟩

set_option maxRecDepth 100000 in
theorem cgotos_calls {A B : Option Addr} {ca cb b s0 : Nat} {t : Tb} {k r p : Int} {ec : Value} {w : World} (hx : t.rd w A B) (hk : t.ok) (hs0 : s0 < t.go.length) (hc : ∀ j v, ([.slice A t.mv.length ca, .slice B t.go.length cb, .int .i64 k, .int .i64 r, .int .i64 p, ec] : List Value)[j]? = some v → w.cell? ⟨b, j, none⟩ = some v) :
    Calls Try.prog 37 #[.pointer (some ⟨b, 0, none⟩), .int .i64 s0] w fun e w' => ∃ v, e = .returned v ∧ v = .bool (dec (((t.go.getD s0 []).length : Int) = r ∧ ∀ j, j < (t.go.getD s0 []).length → goOk ((t.go.getD s0 []).getD j 0) t.mv.length)) ∧ Holds w [] w' := by
  have hM := hx.m
  have hG := hx.g
  have q1 := hk.m'
  have q2 := hk.g'
  have q3 := hk.gl (i := s0) (by omega)
  refine calls_of Try.func37 rfl Try.ntmps37 rfl ?_
  have H := Holds.start w
  refine wc_seq ?_
  refine wc_region ?_
  refine wl_v rfl rfl rfl (v_assign rfl) ?_
  refine wl_nil ?_
  refine wc_seq ?_
  refine wc_seq ?_
  refine wc_still mixed (by kernel_rfl) ?_
  have Hd := H.drew
  refine ws_v rfl rfl rfl (v_move rfl) ?_
  refine ws_v rfl rfl rfl (v_nil rfl) ?_
  refine ws_v rfl rfl rfl (v_fb (o2 := 0) fa83_0 rfl rfl) ?_
  refine ws_v rfl rfl rfl (v_fb (o2 := 1) fa25_1 rfl rfl) ?_
  refine ws_v rfl rfl rfl (v_load one23 rfl (Hd.cell (hc 1 _ rfl))) ?_
  refine ws_v rfl rfl rfl (v_move rfl) ?_
  refine ws_v rfl rfl rfl (v_idx Try.underlying23 sz39 hG.ad rfl rfl (by omega) (by omega)) ?_
  obtain ⟨B14, cp14, hc14, hl14, hr14⟩ := hG.atSlN (i := s0) (by omega)
  refine ws_v rfl rfl rfl (v_load one39 rfl (Hd.cell (hc14))) ?_
  refine ws_v rfl rfl rfl (v_len Try.underlying39 rfl) ?_
  refine ws_v rfl rfl rfl (v_move rfl) ?_
  refine ws_v rfl rfl rfl (v_nil rfl) ?_
  refine ws_v rfl rfl rfl (v_fb (o2 := 3) fa83_2 rfl rfl) ?_
  refine ws_v rfl rfl rfl (v_load one3 rfl (Hd.cell (hc 3 _ rfl))) ?_
  refine ws_v rfl rfl rfl (v_neq rfl rfl) ?_
  refine ws_nil ?_
  refine wc_cond rfl (fun c0 => ?_) (fun c0 => ?_)
  ·have c0p := of_nd_t c0
   refine wc_seq ?_
   refine wc_region ?_
   refine wl_v rfl rfl rfl (v_assign rfl) ?_
   refine wl_nil ?_
   refine wc_ret ?_
   first
     | exact ⟨_, res1 rfl rfl, congrArg Value.bool (dec_t ⟨c0p, fun j hj => ha j (by omega)⟩).symm, Hd⟩
     | exact ⟨_, res1 rfl rfl, congrArg Value.bool (dec_f fun hh => c0p hh.1).symm, Hd.pm (by repeat constructor)⟩
     | exact ⟨_, res1 rfl rfl, congrArg Value.bool (dec_f fun hh => by have h5 := hh.2 i (by omega); unfold goOk at h5; omega).symm, Hd.pm (by repeat constructor)⟩
  ·have c0p := of_nd_f c0
   refine wc_skip ?_
   refine wc_seq ?_
   refine wc_seq ?_
   refine wc_region ?_
   refine wl_v rfl rfl rfl (v_move rfl) ?_
   refine wl_v rfl rfl rfl (v_nil rfl) ?_
   refine wl_v rfl rfl rfl (v_fb (o2 := 0) fa83_0 rfl rfl) ?_
   refine wl_v rfl rfl rfl (v_fb (o2 := 1) fa25_1 rfl rfl) ?_
   refine wl_v rfl rfl rfl (v_load one23 rfl (Hd.cell (hc 1 _ rfl))) ?_
   refine wl_v rfl rfl rfl (v_move rfl) ?_
   refine wl_v rfl rfl rfl (v_idx Try.underlying23 sz39 hG.ad rfl rfl (by omega) (by omega)) ?_
   obtain ⟨B28, cp28, hc28, hl28, hr28⟩ := hG.atSlN (i := s0) (by omega)
   refine wl_v rfl rfl rfl (v_load one39 rfl (Hd.cell (hc28))) ?_
   refine wl_v rfl rfl rfl (v_len Try.underlying39 rfl) ?_
   refine wl_v rfl rfl rfl (v_move rfl) ?_
   refine wl_nil ?_
   refine wc_block ?_
   refine wc_loop (σ := Nat) (fun s => [(0, .pointer (some ⟨b, 0, none⟩)), (28, .slice B28 (t.go.getD s0 []).length cp28), (29, .int .i64 (t.go.getD s0 []).length), (30, .int .i64 s)]) (fun s W => s ≤ (t.go.getD s0 []).length ∧ (∀ j, j < s → goOk ((t.go.getD s0 []).getD j 0) t.mv.length) ∧ Holds w [] W) (fun s => (t.go.getD s0 []).length - s) 0 (sc rfl (sc rfl (sc rfl (sc rfl (sn _))))) ⟨Nat.zero_le _, upto_zero, Hd⟩ ?_
   rintro i W0 ⟨hi, ha, H⟩
   refine wc_seq ?_
   refine wc_region ?_
   refine wl_v rfl rfl rfl (v_lss rfl rfl) ?_
   refine wl_nil ?_
   refine wc_seq ?_
   refine wc_cond rfl (fun c1 => ?_) (fun c1 => ?_)
   ·have c1p := of_decide_eq_true c1
    refine wc_skip ?_
    refine wc_seq ?_
    refine wc_block ?_
    refine wc_seq ?_
    refine wc_region ?_
    refine wl_v rfl rfl rfl (v_idx Try.underlying39 sz3 hr28.ad rfl rfl (by omega) (by omega)) ?_
    refine wl_v rfl rfl rfl (v_load one3 rfl (H.cell (hr28.at1N (i := i) (by omega)))) ?_
    refine wl_v rfl rfl rfl (v_assign rfl) ?_
    refine wl_nil ?_
    refine wc_seq ?_
    refine wc_region ?_
    refine wl_v rfl rfl rfl (v_move rfl) ?_
    refine wl_v rfl rfl rfl (v_lss rfl rfl) ?_
    refine wl_v rfl rfl rfl (v_move rfl) ?_
    refine wl_guard rfl rfl rfl (fun g36 => ?_) (fun g36 => ?_)
    ·have g36p := of_decide_eq_false g36
     refine wl_v rfl rfl rfl (v_move rfl) ?_
     refine wl_on' rfl rfl g36 ?_
     refine wl_v rfl rfl rfl (v_move rfl) ?_
     refine wl_on' rfl rfl g36 ?_
     refine wl_v rfl rfl rfl (v_nil rfl) ?_
     refine wl_on' rfl rfl g36 ?_
     refine wl_v rfl rfl rfl (v_fb (o2 := 0) fa83_0 rfl rfl) ?_
     refine wl_on' rfl rfl g36 ?_
     refine wl_v rfl rfl rfl (v_fb (o2 := 0) fa25_0 rfl rfl) ?_
     refine wl_on' rfl rfl g36 ?_
     refine wl_v rfl rfl rfl (v_load one22 rfl (H.cell (hc 0 _ rfl))) ?_
     refine wl_on' rfl rfl g36 ?_
     refine wl_v rfl rfl rfl (v_len Try.underlying22 rfl) ?_
     refine wl_on' rfl rfl g36 ?_
     refine wl_v rfl rfl rfl (v_geq rfl rfl) ?_
     refine wl_v rfl rfl rfl (v_pick_f rfl g36 rfl) ?_
     refine wl_nil ?_
     refine wc_cond rfl (fun c2 => ?_) (fun c2 => ?_)
     ·have c2p := of_decide_eq_true c2
      refine wc_seq ?_
      refine wc_region ?_
      refine wl_v rfl rfl rfl (v_assign rfl) ?_
      refine wl_nil ?_
      refine wc_ret ?_
      first
        | exact ⟨_, res1 rfl rfl, congrArg Value.bool (dec_t ⟨c0p, fun j hj => ha j (by omega)⟩).symm, H⟩
        | exact ⟨_, res1 rfl rfl, congrArg Value.bool (dec_f fun hh => c0p hh.1).symm, H.pm (by repeat constructor)⟩
        | exact ⟨_, res1 rfl rfl, congrArg Value.bool (dec_f fun hh => by have h5 := hh.2 i (by omega); unfold goOk at h5; omega).symm, H.pm (by repeat constructor)⟩
     ·have c2p := of_decide_eq_false c2
      refine wc_skip ?_
      refine wc_region ?_
      refine wl_v rfl rfl rfl (v_addi rfl rfl (by omega)) ?_
      refine wl_v rfl rfl rfl (v_move rfl) ?_
      refine wl_nil ?_
      exact ⟨i + 1, (sc rfl (sc rfl (sc rfl (sc rfl (sn _))))), ⟨by omega, upto_succ ha (by unfold goOk; omega), H.pm (by repeat constructor)⟩, by omega⟩
    ·have g36p := of_decide_eq_true g36
     refine wl_off rfl rfl g36 rfl ?_
     refine wl_off rfl rfl g36 rfl ?_
     refine wl_off rfl rfl g36 rfl ?_
     refine wl_off rfl rfl g36 rfl ?_
     refine wl_off rfl rfl g36 rfl ?_
     refine wl_off rfl rfl g36 rfl ?_
     refine wl_off rfl rfl g36 rfl ?_
     refine wl_v rfl rfl rfl (v_pick_t rfl g36 rfl) ?_
     refine wl_nil ?_
     refine wc_cond_t rfl ?_
     refine wc_seq ?_
     refine wc_region ?_
     refine wl_v rfl rfl rfl (v_assign rfl) ?_
     refine wl_nil ?_
     refine wc_ret ?_
     first
       | exact ⟨_, res1 rfl rfl, congrArg Value.bool (dec_t ⟨c0p, fun j hj => ha j (by omega)⟩).symm, H⟩
       | exact ⟨_, res1 rfl rfl, congrArg Value.bool (dec_f fun hh => c0p hh.1).symm, H.pm (by repeat constructor)⟩
       | exact ⟨_, res1 rfl rfl, congrArg Value.bool (dec_f fun hh => by have h5 := hh.2 i (by omega); unfold goOk at h5; omega).symm, H.pm (by repeat constructor)⟩
   ·have c1p := of_decide_eq_false c1
    refine wc_exit ?_
    refine wc_seq ?_
    refine wc_region ?_
    refine wl_v rfl rfl rfl (v_assign rfl) ?_
    refine wl_nil ?_
    refine wc_ret ?_
    first
      | exact ⟨_, res1 rfl rfl, congrArg Value.bool (dec_t ⟨c0p, fun j hj => ha j (by omega)⟩).symm, H⟩
      | exact ⟨_, res1 rfl rfl, congrArg Value.bool (dec_f fun hh => c0p hh.1).symm, H.pm (by repeat constructor)⟩
      | exact ⟨_, res1 rfl rfl, congrArg Value.bool (dec_f fun hh => by have h5 := hh.2 i (by omega); unfold goOk at h5; omega).symm, H.pm (by repeat constructor)⟩

set_option maxRecDepth 100000 in
theorem check_calls {A B : Option Addr} {ca cb : Nat} {t : Tb} {k r p : Int} {w : World} (hx : t.rd w A B) (hk : t.ok) :
    Calls Try.prog 12 #[t.val A B ca cb, .int .i64 k, .int .i64 r, .int .i64 p] w fun e w' => ∃ v, e = .returned v ∧ v = .int .i64 (checkF t k r p) ∧ Holds w [] w' := by
  have q1 := hk.m'
  have q2 := hk.g'
  refine calls_of Try.func12 rfl Try.ntmps12 rfl ?_
  have H := Holds.start w
  refine wc_seq ?_
  refine wc_region ?_
  refine wl_box (cs := [_, _]) H rfl rfl rfl ?_
  intro b4 w1 hb4 H2
  refine wl_v rfl rfl rfl (v_assign rfl) ?_
  refine wl_nil ?_
  refine wc_seq ?_
  refine wc_seq ?_
  refine wc_region ?_
  refine wl_v rfl rfl rfl (v_move rfl) ?_
  refine wl_v rfl rfl rfl (v_lss rfl rfl) ?_
  refine wl_v rfl rfl rfl (v_move rfl) ?_
  refine wl_guard rfl rfl rfl (fun g15 => ?_) (fun g15 => ?_)
  ·have g15p := of_decide_eq_false g15
   refine wl_v rfl rfl rfl (v_move rfl) ?_
   refine wl_on' rfl rfl g15 ?_
   refine wl_v rfl rfl rfl (v_lss rfl rfl) ?_
   refine wl_v rfl rfl rfl (v_pick_f rfl g15 rfl) ?_
   refine wl_v rfl rfl rfl (v_move rfl) ?_
   refine wl_guard rfl rfl rfl (fun g19 => ?_) (fun g19 => ?_)
   ·have g19p := of_decide_eq_false g19
    refine wl_v rfl rfl rfl (v_move rfl) ?_
    refine wl_on' rfl rfl g19 ?_
    refine wl_v rfl rfl rfl (v_lss rfl rfl) ?_
    refine wl_v rfl rfl rfl (v_pick_f rfl g19 rfl) ?_
    refine wl_nil ?_
    refine wc_cond rfl (fun c0 => ?_) (fun c0 => ?_)
    ·have c0p := of_decide_eq_true c0
     refine wc_seq ?_
     refine wc_region ?_
     refine wl_v rfl rfl rfl (v_assign rfl) ?_
     refine wl_nil ?_
     refine wc_ret ?_
     first
       | exact ⟨_, res1 rfl rfl, congrArg (Value.int .i64) (checkF_arg (by omega)).symm, H2.pm (by repeat constructor)⟩
       | exact ⟨_, res1 rfl rfl, congrArg (Value.int .i64) (checkF_ok (by omega) ⟨by omega, by omega, by omega, fun s hs => ha s (by omega)⟩).symm, H2.pm (by repeat constructor)⟩
       | exact ⟨_, res1 rfl rfl, congrArg (Value.int .i64) (checkF_bad (by omega) fun hg => by obtain ⟨p1, p2, p3, p4⟩ := hg; omega).symm, H2.pm (by repeat constructor)⟩
       | exact ⟨_, res1 rfl rfl, congrArg (Value.int .i64) (checkF_bad (by omega) fun hg => by obtain ⟨p5, p6, p7, p8⟩ := hg.2.2.2 i (by omega); exact of_ndec c4p ⟨p5, p7⟩).symm, H2.pm (by repeat constructor)⟩
       | exact ⟨_, res1 rfl rfl, congrArg (Value.int .i64) (checkF_bad (by omega) fun hg => by obtain ⟨p5, p6, p7, p8⟩ := hg.2.2.2 i (by omega); exact of_ndec c4p ⟨p6, p8⟩).symm, H2.pm (by repeat constructor)⟩
    ·have c0p := of_decide_eq_false c0
     refine wc_skip ?_
     refine wc_seq ?_
     refine wc_seq ?_
     refine wc_region ?_
     refine wl_v rfl rfl rfl (v_fb (o2 := 0) fa25_0 rfl rfl) ?_
     refine wl_v rfl rfl rfl (v_load one22 rfl (H2.at (by repeat constructor) rfl)) ?_
     refine wl_v rfl rfl rfl (v_len Try.underlying22 rfl) ?_
     refine wl_v rfl rfl rfl (v_lss rfl rfl) ?_
     refine wl_v rfl rfl rfl (v_move rfl) ?_
     refine wl_guard rfl rfl rfl (fun g27 => ?_) (fun g27 => ?_)
     ·have g27p := of_decide_eq_false g27
      refine wl_v rfl rfl rfl (v_fb (o2 := 0) fa25_0 rfl rfl) ?_
      refine wl_on' rfl rfl g27 ?_
      refine wl_v rfl rfl rfl (v_load one22 rfl (H2.at (by repeat constructor) rfl)) ?_
      refine wl_on' rfl rfl g27 ?_
      refine wl_v rfl rfl rfl (v_len Try.underlying22 rfl) ?_
      refine wl_on' rfl rfl g27 ?_
      refine wl_v rfl rfl rfl (v_gtr rfl rfl) ?_
      refine wl_v rfl rfl rfl (v_pick_f rfl g27 rfl) ?_
      refine wl_v rfl rfl rfl (v_move rfl) ?_
      refine wl_guard rfl rfl rfl (fun g33 => ?_) (fun g33 => ?_)
      ·have g33p := of_decide_eq_false g33
       refine wl_v rfl rfl rfl (v_fb (o2 := 1) fa25_1 rfl rfl) ?_
       refine wl_on' rfl rfl g33 ?_
       refine wl_v rfl rfl rfl (v_load one23 rfl (H2.at (by repeat constructor) rfl)) ?_
       refine wl_on' rfl rfl g33 ?_
       refine wl_v rfl rfl rfl (v_len Try.underlying23 rfl) ?_
       refine wl_on' rfl rfl g33 ?_
       refine wl_v rfl rfl rfl (v_fb (o2 := 0) fa25_0 rfl rfl) ?_
       refine wl_on' rfl rfl g33 ?_
       refine wl_v rfl rfl rfl (v_load one22 rfl (H2.at (by repeat constructor) rfl)) ?_
       refine wl_on' rfl rfl g33 ?_
       refine wl_v rfl rfl rfl (v_len Try.underlying22 rfl) ?_
       refine wl_on' rfl rfl g33 ?_
       refine wl_v rfl rfl rfl (v_neq rfl rfl) ?_
       refine wl_v rfl rfl rfl (v_pick_f rfl g33 rfl) ?_
       refine wl_nil ?_
       refine wc_cond rfl (fun c1 => ?_) (fun c1 => ?_)
       ·have c1p := of_nd_t c1
        refine wc_seq ?_
        refine wc_region ?_
        refine wl_v rfl rfl rfl (v_assign rfl) ?_
        refine wl_nil ?_
        refine wc_ret ?_
        first
          | exact ⟨_, res1 rfl rfl, congrArg (Value.int .i64) (checkF_arg (by omega)).symm, H2.pm (by repeat constructor)⟩
          | exact ⟨_, res1 rfl rfl, congrArg (Value.int .i64) (checkF_ok (by omega) ⟨by omega, by omega, by omega, fun s hs => ha s (by omega)⟩).symm, H2.pm (by repeat constructor)⟩
          | exact ⟨_, res1 rfl rfl, congrArg (Value.int .i64) (checkF_bad (by omega) fun hg => by obtain ⟨p1, p2, p3, p4⟩ := hg; omega).symm, H2.pm (by repeat constructor)⟩
          | exact ⟨_, res1 rfl rfl, congrArg (Value.int .i64) (checkF_bad (by omega) fun hg => by obtain ⟨p5, p6, p7, p8⟩ := hg.2.2.2 i (by omega); exact of_ndec c4p ⟨p5, p7⟩).symm, H2.pm (by repeat constructor)⟩
          | exact ⟨_, res1 rfl rfl, congrArg (Value.int .i64) (checkF_bad (by omega) fun hg => by obtain ⟨p5, p6, p7, p8⟩ := hg.2.2.2 i (by omega); exact of_ndec c4p ⟨p6, p8⟩).symm, H2.pm (by repeat constructor)⟩
       ·have c1p := of_nd_f c1
        refine wc_skip ?_
        refine wc_seq ?_
        refine wc_region ?_
        refine wl_v rfl rfl rfl (v_loadN agg25 rfl rfl (H2.ats (by repeat constructor))) ?_
        refine wl_v rfl rfl rfl (v_move rfl) ?_
        refine wl_v rfl rfl rfl (v_move rfl) ?_
        refine wl_v rfl rfl rfl (v_move rfl) ?_
        refine wl_v rfl rfl rfl (v_bld ba83 rfl (by repeat constructor)) ?_
        refine wl_box (cs := [_, _, _, _, _, _]) H2 rfl rfl rfl ?_
        intro b47 w3 hb47 H4
        refine wl_v rfl rfl rfl (v_assign rfl) ?_
        refine wl_nil ?_
        refine wc_seq ?_
        refine wc_region ?_
        refine wl_v rfl rfl rfl (v_move rfl) ?_
        refine wl_v rfl rfl rfl (v_move rfl) ?_
        refine wl_v rfl rfl rfl (v_fn rfl rfl) ?_
        refine wl_v rfl rfl rfl (v_move rfl) ?_
        refine wl_v rfl rfl rfl (v_fn rfl rfl) ?_
        refine wl_slit (v := .nilFunc) (z := [.nilFunc, .nilFunc]) (cs := [.func (.func 36) #[.pointer (some ⟨b47, 0, none⟩)] #[], .func (.func 37) #[.pointer (some ⟨b47, 0, none⟩)] #[]]) (sz := 1) H4 rfl Try.underlying81 sz84 zv84 (by decide) (by decide) (by kernel_rfl) rfl (by repeat constructor) ?_
        intro b53 w5 hb53 H5 hs5
        refine wl_v rfl rfl rfl (v_nil rfl) ?_
        refine wl_v rfl rfl rfl (v_fb (o2 := 5) fa83_4 rfl rfl) ?_
        refine wl_store (vs := [_]) H5 (by repeat constructor) sz81 rfl rfl rfl rfl rfl (by (repeat constructor)) ?_
        intro w6 H7 hw6
        refine wl_nil ?_
        refine wc_seq ?_
        refine wc_seq ?_
        refine wc_region ?_
        refine wl_v rfl rfl rfl (v_fb (o2 := 0) fa25_0 rfl rfl) ?_
        refine wl_v rfl rfl rfl (v_load one22 rfl (H7.at (by repeat constructor) rfl)) ?_
        refine wl_v rfl rfl rfl (v_len Try.underlying22 rfl) ?_
        refine wl_v rfl rfl rfl (v_move rfl) ?_
        refine wl_nil ?_
        refine wc_block ?_
        refine wc_loop (σ := Nat) (fun s => [(4, .pointer (some ⟨b4, 0, none⟩)), (9, .pointer (some ⟨b47, 0, none⟩)), (58, .int .i64 t.mv.length), (59, .int .i64 s)]) (fun s W => s ≤ t.mv.length ∧ (∀ s', s' < s → rowOk t k r p s') ∧ Holds w [Blk b53 84 [.func (.func 36) #[.pointer (some ⟨b47, 0, none⟩)] #[], .func (.func 37) #[.pointer (some ⟨b47, 0, none⟩)] #[]], Blk b47 83 [.slice A t.mv.length ca, .slice B t.go.length cb, .int .i64 k, .int .i64 r, .int .i64 p, .slice (some ⟨b53, 0, none⟩) 2 2], Blk b4 25 [.slice A t.mv.length ca, .slice B t.go.length cb]] W) (fun s => t.mv.length - s) 0 (sc rfl (sc rfl (sc rfl (sc rfl (sn _))))) ⟨Nat.zero_le _, upto_zero, H7.pm (by repeat constructor)⟩ ?_
        rintro i W0 ⟨hi, ha, H⟩
        refine wc_seq ?_
        refine wc_region ?_
        refine wl_v rfl rfl rfl (v_lss rfl rfl) ?_
        refine wl_nil ?_
        refine wc_seq ?_
        refine wc_cond rfl (fun c2 => ?_) (fun c2 => ?_)
        ·have c2p := of_decide_eq_true c2
         refine wc_skip ?_
         refine wc_seq ?_
         refine wc_block ?_
         refine wc_seq ?_
         refine wc_region ?_
         refine wl_v rfl rfl rfl (v_move rfl) ?_
         refine wl_v rfl rfl rfl (v_assign rfl) ?_
         refine wl_nil ?_
         refine wc_seq ?_
         refine wc_region ?_
         refine wl_v rfl rfl rfl (v_move rfl) ?_
         refine wl_v rfl rfl rfl (v_nil rfl) ?_
         refine wl_v rfl rfl rfl (v_fb (o2 := 5) fa83_4 rfl rfl) ?_
         refine wl_v rfl rfl rfl (v_load one81 rfl (H.at (by repeat constructor) rfl)) ?_
         refine wl_v rfl rfl rfl (v_len Try.underlying81 rfl) ?_
         refine wl_v rfl rfl rfl (v_move rfl) ?_
         refine wl_nil ?_
         refine wc_block ?_
         refine wc_loop (σ := Nat) (fun s => [(4, .pointer (some ⟨b4, 0, none⟩)), (9, .pointer (some ⟨b47, 0, none⟩)), (10, .int .i64 i), (58, .int .i64 t.mv.length), (59, .int .i64 i), (65, .slice (some ⟨b53, 0, none⟩) 2 2), (66, .int .i64 2), (67, .int .i64 s)]) (fun s W => s ≤ 2 ∧ (1 ≤ s → ((t.mv.getD i []).length : Int) = k ∧ ∀ j, j < (t.mv.getD i []).length → mvOk ((t.mv.getD i []).getD j mv0) t.mv.length p) ∧ (2 ≤ s → ((t.go.getD i []).length : Int) = r ∧ ∀ j, j < (t.go.getD i []).length → goOk ((t.go.getD i []).getD j 0) t.mv.length) ∧ Holds w [Blk b53 84 [.func (.func 36) #[.pointer (some ⟨b47, 0, none⟩)] #[], .func (.func 37) #[.pointer (some ⟨b47, 0, none⟩)] #[]], Blk b47 83 [.slice A t.mv.length ca, .slice B t.go.length cb, .int .i64 k, .int .i64 r, .int .i64 p, .slice (some ⟨b53, 0, none⟩) 2 2], Blk b4 25 [.slice A t.mv.length ca, .slice B t.go.length cb]] W) (fun s => 2 - s) 0 (sc rfl (sc rfl (sc rfl (sc rfl (sc rfl (sc rfl (sc rfl (sc rfl (sn _))))))))) ⟨Nat.zero_le _, fun h => absurd h (by omega), fun h => absurd h (by omega), H⟩ ?_
         rintro q W1 ⟨hq, h1, h2, H⟩
         refine wc_seq ?_
         refine wc_region ?_
         refine wl_v rfl rfl rfl (v_lss rfl rfl) ?_
         refine wl_nil ?_
         refine wc_seq ?_
         refine wc_cond rfl (fun c3 => ?_) (fun c3 => ?_)
         ·have c3p := of_decide_eq_true c3
          have hs2 : q = 0 ∨ q = 1 := by omega
          rcases hs2 with rfl | rfl
          ·refine wc_skip ?_
           refine wc_seq ?_
           refine wc_block ?_
           refine wc_seq ?_
           refine wc_region ?_
           refine wl_v rfl rfl rfl (v_idx Try.underlying81 sz84 (fun _ => rfl) rfl rfl (by omega) (by omega)) ?_
           refine wl_v rfl rfl rfl (v_load one84 rfl (H.ats (by repeat constructor) 0 _ rfl)) ?_
           refine wl_v rfl rfl rfl (v_assign rfl) ?_
           refine wl_nil ?_
           refine wc_seq ?_
           refine wc_region ?_
           refine wl_v rfl rfl rfl (v_move rfl) ?_
           refine wl_v rfl rfl rfl (v_move rfl) ?_
           refine wl_callv (first := [.pointer (some ⟨b47, 0, none⟩)]) (captured := []) en36 rfl rfl rfl (cmoves_calls (hx.below H.old) hk (s0 := i) (by omega) (b := b47) (k := k) (r := r) (p := p) (fun j v hv => H.at (by repeat constructor) hv)) ?_
           rintro _ w8 ⟨rfl, Hc⟩
           have H9 := H.call Hc
           refine wl_v rfl rfl rfl (v_not rfl) ?_
           refine wl_nil ?_
           refine wc_cond rfl (fun c4 => ?_) (fun c4 => ?_)
           ·have c4p := of_n_t c4
            refine wc_seq ?_
            refine wc_region ?_
            refine wl_v rfl rfl rfl (v_assign rfl) ?_
            refine wl_nil ?_
            refine wc_ret ?_
            first
              | exact ⟨_, res1 rfl rfl, congrArg (Value.int .i64) (checkF_arg (by omega)).symm, H9.pm (by repeat constructor)⟩
              | exact ⟨_, res1 rfl rfl, congrArg (Value.int .i64) (checkF_ok (by omega) ⟨by omega, by omega, by omega, fun s hs => ha s (by omega)⟩).symm, H9.pm (by repeat constructor)⟩
              | exact ⟨_, res1 rfl rfl, congrArg (Value.int .i64) (checkF_bad (by omega) fun hg => by obtain ⟨p1, p2, p3, p4⟩ := hg; omega).symm, H9.pm (by repeat constructor)⟩
              | exact ⟨_, res1 rfl rfl, congrArg (Value.int .i64) (checkF_bad (by omega) fun hg => by obtain ⟨p5, p6, p7, p8⟩ := hg.2.2.2 i (by omega); exact of_ndec c4p ⟨p5, p7⟩).symm, H9.pm (by repeat constructor)⟩
              | exact ⟨_, res1 rfl rfl, congrArg (Value.int .i64) (checkF_bad (by omega) fun hg => by obtain ⟨p5, p6, p7, p8⟩ := hg.2.2.2 i (by omega); exact of_ndec c4p ⟨p6, p8⟩).symm, H9.pm (by repeat constructor)⟩
           ·have c4p := of_n_f c4
            refine wc_skip ?_
            refine wc_region ?_
            refine wl_v rfl rfl rfl (v_addi rfl rfl (by omega)) ?_
            refine wl_v rfl rfl rfl (v_move rfl) ?_
            refine wl_nil ?_
            exact ⟨1, (sc rfl (sc rfl (sc rfl (sc rfl (sc rfl (sc rfl (sc rfl (sc rfl (sn _))))))))), ⟨by omega, fun _ => of_dec c4p, fun h => absurd h (by omega), H9⟩, by omega⟩
          ·refine wc_skip ?_
           refine wc_seq ?_
           refine wc_block ?_
           refine wc_seq ?_
           refine wc_region ?_
           refine wl_v rfl rfl rfl (v_idx Try.underlying81 sz84 (fun _ => rfl) rfl rfl (by omega) (by omega)) ?_
           refine wl_v rfl rfl rfl (v_load one84 rfl (H.ats (by repeat constructor) 1 _ rfl)) ?_
           refine wl_v rfl rfl rfl (v_assign rfl) ?_
           refine wl_nil ?_
           refine wc_seq ?_
           refine wc_region ?_
           refine wl_v rfl rfl rfl (v_move rfl) ?_
           refine wl_v rfl rfl rfl (v_move rfl) ?_
           refine wl_callv (first := [.pointer (some ⟨b47, 0, none⟩)]) (captured := []) en37 rfl rfl rfl (cgotos_calls (hx.below H.old) hk (s0 := i) (by omega) (b := b47) (k := k) (r := r) (p := p) (fun j v hv => H.at (by repeat constructor) hv)) ?_
           rintro _ w10 ⟨rfl, Hc⟩
           have H11 := H.call Hc
           refine wl_v rfl rfl rfl (v_not rfl) ?_
           refine wl_nil ?_
           refine wc_cond rfl (fun c4 => ?_) (fun c4 => ?_)
           ·have c4p := of_n_t c4
            refine wc_seq ?_
            refine wc_region ?_
            refine wl_v rfl rfl rfl (v_assign rfl) ?_
            refine wl_nil ?_
            refine wc_ret ?_
            first
              | exact ⟨_, res1 rfl rfl, congrArg (Value.int .i64) (checkF_arg (by omega)).symm, H11.pm (by repeat constructor)⟩
              | exact ⟨_, res1 rfl rfl, congrArg (Value.int .i64) (checkF_ok (by omega) ⟨by omega, by omega, by omega, fun s hs => ha s (by omega)⟩).symm, H11.pm (by repeat constructor)⟩
              | exact ⟨_, res1 rfl rfl, congrArg (Value.int .i64) (checkF_bad (by omega) fun hg => by obtain ⟨p1, p2, p3, p4⟩ := hg; omega).symm, H11.pm (by repeat constructor)⟩
              | exact ⟨_, res1 rfl rfl, congrArg (Value.int .i64) (checkF_bad (by omega) fun hg => by obtain ⟨p5, p6, p7, p8⟩ := hg.2.2.2 i (by omega); exact of_ndec c4p ⟨p5, p7⟩).symm, H11.pm (by repeat constructor)⟩
              | exact ⟨_, res1 rfl rfl, congrArg (Value.int .i64) (checkF_bad (by omega) fun hg => by obtain ⟨p5, p6, p7, p8⟩ := hg.2.2.2 i (by omega); exact of_ndec c4p ⟨p6, p8⟩).symm, H11.pm (by repeat constructor)⟩
           ·have c4p := of_n_f c4
            refine wc_skip ?_
            refine wc_region ?_
            refine wl_v rfl rfl rfl (v_addi rfl rfl (by omega)) ?_
            refine wl_v rfl rfl rfl (v_move rfl) ?_
            refine wl_nil ?_
            exact ⟨2, (sc rfl (sc rfl (sc rfl (sc rfl (sc rfl (sc rfl (sc rfl (sc rfl (sn _))))))))), ⟨by omega, fun _ => h1 (by omega), fun _ => of_dec c4p, H11⟩, by omega⟩
         ·have c3p := of_decide_eq_false c3
          refine wc_exit ?_
          refine wc_region ?_
          refine wl_v rfl rfl rfl (v_addi rfl rfl (by omega)) ?_
          refine wl_v rfl rfl rfl (v_move rfl) ?_
          refine wl_nil ?_
          exact ⟨i + 1, (sc rfl (sc rfl (sc rfl (sc rfl (sn _))))), ⟨by omega, upto_succ ha ⟨(h1 (by omega)).1, (h2 (by omega)).1, (h1 (by omega)).2, (h2 (by omega)).2⟩, H⟩, by omega⟩
        ·have c2p := of_decide_eq_false c2
         refine wc_exit ?_
         refine wc_seq ?_
         refine wc_region ?_
         refine wl_v rfl rfl rfl (v_assign rfl) ?_
         refine wl_nil ?_
         refine wc_ret ?_
         first
           | exact ⟨_, res1 rfl rfl, congrArg (Value.int .i64) (checkF_arg (by omega)).symm, H.pm (by repeat constructor)⟩
           | exact ⟨_, res1 rfl rfl, congrArg (Value.int .i64) (checkF_ok (by omega) ⟨by omega, by omega, by omega, fun s hs => ha s (by omega)⟩).symm, H.pm (by repeat constructor)⟩
           | exact ⟨_, res1 rfl rfl, congrArg (Value.int .i64) (checkF_bad (by omega) fun hg => by obtain ⟨p1, p2, p3, p4⟩ := hg; omega).symm, H.pm (by repeat constructor)⟩
           | exact ⟨_, res1 rfl rfl, congrArg (Value.int .i64) (checkF_bad (by omega) fun hg => by obtain ⟨p5, p6, p7, p8⟩ := hg.2.2.2 i (by omega); exact of_ndec c4p ⟨p5, p7⟩).symm, H.pm (by repeat constructor)⟩
           | exact ⟨_, res1 rfl rfl, congrArg (Value.int .i64) (checkF_bad (by omega) fun hg => by obtain ⟨p5, p6, p7, p8⟩ := hg.2.2.2 i (by omega); exact of_ndec c4p ⟨p6, p8⟩).symm, H.pm (by repeat constructor)⟩
      ·have g33p := of_decide_eq_true g33
       refine wl_off rfl rfl g33 rfl ?_
       refine wl_off rfl rfl g33 rfl ?_
       refine wl_off rfl rfl g33 rfl ?_
       refine wl_off rfl rfl g33 rfl ?_
       refine wl_off rfl rfl g33 rfl ?_
       refine wl_off rfl rfl g33 rfl ?_
       refine wl_v rfl rfl rfl (v_pick_t rfl g33 rfl) ?_
       refine wl_nil ?_
       refine wc_cond_t rfl ?_
       refine wc_seq ?_
       refine wc_region ?_
       refine wl_v rfl rfl rfl (v_assign rfl) ?_
       refine wl_nil ?_
       refine wc_ret ?_
       first
         | exact ⟨_, res1 rfl rfl, congrArg (Value.int .i64) (checkF_arg (by omega)).symm, H2.pm (by repeat constructor)⟩
         | exact ⟨_, res1 rfl rfl, congrArg (Value.int .i64) (checkF_ok (by omega) ⟨by omega, by omega, by omega, fun s hs => ha s (by omega)⟩).symm, H2.pm (by repeat constructor)⟩
         | exact ⟨_, res1 rfl rfl, congrArg (Value.int .i64) (checkF_bad (by omega) fun hg => by obtain ⟨p1, p2, p3, p4⟩ := hg; omega).symm, H2.pm (by repeat constructor)⟩
         | exact ⟨_, res1 rfl rfl, congrArg (Value.int .i64) (checkF_bad (by omega) fun hg => by obtain ⟨p5, p6, p7, p8⟩ := hg.2.2.2 i (by omega); exact of_ndec c4p ⟨p5, p7⟩).symm, H2.pm (by repeat constructor)⟩
         | exact ⟨_, res1 rfl rfl, congrArg (Value.int .i64) (checkF_bad (by omega) fun hg => by obtain ⟨p5, p6, p7, p8⟩ := hg.2.2.2 i (by omega); exact of_ndec c4p ⟨p6, p8⟩).symm, H2.pm (by repeat constructor)⟩
     ·have g27p := of_decide_eq_true g27
      refine wl_off rfl rfl g27 rfl ?_
      refine wl_off rfl rfl g27 rfl ?_
      refine wl_off rfl rfl g27 rfl ?_
      refine wl_v rfl rfl rfl (v_pick_t rfl g27 rfl) ?_
      refine wl_v rfl rfl rfl (v_move rfl) ?_
      refine wl_off rfl rfl rfl rfl ?_
      refine wl_off rfl rfl rfl rfl ?_
      refine wl_off rfl rfl rfl rfl ?_
      refine wl_off rfl rfl rfl rfl ?_
      refine wl_off rfl rfl rfl rfl ?_
      refine wl_off rfl rfl rfl rfl ?_
      refine wl_off rfl rfl rfl rfl ?_
      refine wl_v rfl rfl rfl (v_pick_t rfl rfl rfl) ?_
      refine wl_nil ?_
      refine wc_cond_t rfl ?_
      refine wc_seq ?_
      refine wc_region ?_
      refine wl_v rfl rfl rfl (v_assign rfl) ?_
      refine wl_nil ?_
      refine wc_ret ?_
      first
        | exact ⟨_, res1 rfl rfl, congrArg (Value.int .i64) (checkF_arg (by omega)).symm, H2.pm (by repeat constructor)⟩
        | exact ⟨_, res1 rfl rfl, congrArg (Value.int .i64) (checkF_ok (by omega) ⟨by omega, by omega, by omega, fun s hs => ha s (by omega)⟩).symm, H2.pm (by repeat constructor)⟩
        | exact ⟨_, res1 rfl rfl, congrArg (Value.int .i64) (checkF_bad (by omega) fun hg => by obtain ⟨p1, p2, p3, p4⟩ := hg; omega).symm, H2.pm (by repeat constructor)⟩
        | exact ⟨_, res1 rfl rfl, congrArg (Value.int .i64) (checkF_bad (by omega) fun hg => by obtain ⟨p5, p6, p7, p8⟩ := hg.2.2.2 i (by omega); exact of_ndec c4p ⟨p5, p7⟩).symm, H2.pm (by repeat constructor)⟩
        | exact ⟨_, res1 rfl rfl, congrArg (Value.int .i64) (checkF_bad (by omega) fun hg => by obtain ⟨p5, p6, p7, p8⟩ := hg.2.2.2 i (by omega); exact of_ndec c4p ⟨p6, p8⟩).symm, H2.pm (by repeat constructor)⟩
   ·have g19p := of_decide_eq_true g19
    refine wl_off rfl rfl g19 rfl ?_
    refine wl_v rfl rfl rfl (v_pick_t rfl g19 rfl) ?_
    refine wl_nil ?_
    refine wc_cond_t rfl ?_
    refine wc_seq ?_
    refine wc_region ?_
    refine wl_v rfl rfl rfl (v_assign rfl) ?_
    refine wl_nil ?_
    refine wc_ret ?_
    first
      | exact ⟨_, res1 rfl rfl, congrArg (Value.int .i64) (checkF_arg (by omega)).symm, H2.pm (by repeat constructor)⟩
      | exact ⟨_, res1 rfl rfl, congrArg (Value.int .i64) (checkF_ok (by omega) ⟨by omega, by omega, by omega, fun s hs => ha s (by omega)⟩).symm, H2.pm (by repeat constructor)⟩
      | exact ⟨_, res1 rfl rfl, congrArg (Value.int .i64) (checkF_bad (by omega) fun hg => by obtain ⟨p1, p2, p3, p4⟩ := hg; omega).symm, H2.pm (by repeat constructor)⟩
      | exact ⟨_, res1 rfl rfl, congrArg (Value.int .i64) (checkF_bad (by omega) fun hg => by obtain ⟨p5, p6, p7, p8⟩ := hg.2.2.2 i (by omega); exact of_ndec c4p ⟨p5, p7⟩).symm, H2.pm (by repeat constructor)⟩
      | exact ⟨_, res1 rfl rfl, congrArg (Value.int .i64) (checkF_bad (by omega) fun hg => by obtain ⟨p5, p6, p7, p8⟩ := hg.2.2.2 i (by omega); exact of_ndec c4p ⟨p6, p8⟩).symm, H2.pm (by repeat constructor)⟩
  ·have g15p := of_decide_eq_true g15
   refine wl_off rfl rfl g15 rfl ?_
   refine wl_v rfl rfl rfl (v_pick_t rfl g15 rfl) ?_
   refine wl_v rfl rfl rfl (v_move rfl) ?_
   refine wl_off rfl rfl rfl rfl ?_
   refine wl_off rfl rfl rfl rfl ?_
   refine wl_v rfl rfl rfl (v_pick_t rfl rfl rfl) ?_
   refine wl_nil ?_
   refine wc_cond_t rfl ?_
   refine wc_seq ?_
   refine wc_region ?_
   refine wl_v rfl rfl rfl (v_assign rfl) ?_
   refine wl_nil ?_
   refine wc_ret ?_
   first
     | exact ⟨_, res1 rfl rfl, congrArg (Value.int .i64) (checkF_arg (by omega)).symm, H2.pm (by repeat constructor)⟩
     | exact ⟨_, res1 rfl rfl, congrArg (Value.int .i64) (checkF_ok (by omega) ⟨by omega, by omega, by omega, fun s hs => ha s (by omega)⟩).symm, H2.pm (by repeat constructor)⟩
     | exact ⟨_, res1 rfl rfl, congrArg (Value.int .i64) (checkF_bad (by omega) fun hg => by obtain ⟨p1, p2, p3, p4⟩ := hg; omega).symm, H2.pm (by repeat constructor)⟩
     | exact ⟨_, res1 rfl rfl, congrArg (Value.int .i64) (checkF_bad (by omega) fun hg => by obtain ⟨p5, p6, p7, p8⟩ := hg.2.2.2 i (by omega); exact of_ndec c4p ⟨p5, p7⟩).symm, H2.pm (by repeat constructor)⟩
     | exact ⟨_, res1 rfl rfl, congrArg (Value.int .i64) (checkF_bad (by omega) fun hg => by obtain ⟨p5, p6, p7, p8⟩ := hg.2.2.2 i (by omega); exact of_ndec c4p ⟨p6, p8⟩).symm, H2.pm (by repeat constructor)⟩
end Go.Proofs.Ytkpehkadammppaa.Chk

/-! A row's default, in plain Lean. -/
namespace Go.Proofs.YtkpehkadammppaaFx
/-- How many of a row's moves reduce by x. -/
def cnt (row : List Mv) (x : Int) : Nat := (row.filter fun m => decide (m.d = 2) && decide (m.n = x)).length
/-- r is the row's default. -/
def IsUsual (row : List Mv) (r : Mv) : Prop := (r = mv0 ∧ ∀ x, cnt row x = 0) ∨ ∃ x, r = ⟨2, x⟩ ∧ 0 < cnt row x ∧ ∀ y, cnt row y ≤ cnt row x ∧ (cnt row y = cnt row x → x ≤ y)
theorem IsUsual.unique {row : List Mv} {r r' : Mv} (h : IsUsual row r) (h' : IsUsual row r') : r = r' := by
  rcases h with ⟨rfl, h0⟩ | ⟨x, rfl, hx, hm⟩ <;> rcases h' with ⟨rfl, h0'⟩ | ⟨y, rfl, hy, hm'⟩
  · rfl
  · rw [h0] at hy; omega
  · rw [h0'] at hx; omega
  · have h1 := hm y
    have h2 := hm' x
    have h3 : cnt row x = cnt row y := by omega
    have h4 := h1.2 h3.symm
    have h5 := h2.2 h3
    have : x = y := by omega
    rw [this]
theorem cnt_snoc (row : List Mv) (m : Mv) (x : Int) : cnt (row ++ [m]) x = cnt row x + if m.d = 2 ∧ m.n = x then 1 else 0 := by
  unfold cnt
  rw [List.filter_append, List.length_append]
  by_cases h : m.d = 2 ∧ m.n = x
  · simp [List.filter_cons, h]
  · rw [if_neg h]
    have : (decide (m.d = 2) && decide (m.n = x)) = false := by simpa using h
    simp [List.filter_cons, this]
theorem cnt_take {row : List Mv} {i : Nat} (h : i < row.length) (x : Int) : cnt (row.take (i + 1)) x = cnt (row.take i) x + if (row.getD i mv0).d = 2 ∧ (row.getD i mv0).n = x then 1 else 0 := by
  rw [take_succ' mv0 h, cnt_snoc]
theorem cnt_le (row : List Mv) (x : Int) : cnt row x ≤ row.length := List.length_filter_le _ _
theorem cnt_pos {row : List Mv} {m : Mv} (h : m ∈ row) (hd : m.d = 2) : 0 < cnt row m.n := by
  unfold cnt
  exact List.length_pos_of_mem (List.mem_filter.2 ⟨h, by simp [hd]⟩)
theorem cnt_mem {row : List Mv} {x : Int} (h : 0 < cnt row x) : ∃ m ∈ row, m.d = 2 ∧ m.n = x := by
  obtain ⟨m, hm⟩ := List.exists_mem_of_length_pos h
  obtain ⟨h1, h2⟩ := List.mem_filter.1 hm
  exact ⟨m, h1, by simpa using h2⟩
/-- One more is looked at. -/
def better (row : List Mv) (best : Mv) (x : Int) : Bool := decide (best.d = 0) || decide (cnt row best.n < cnt row x) || (decide (cnt row x = cnt row best.n) && decide (x < best.n))
/-- best is the best of those of p. -/
def Best (row : List Mv) (p : Int → Prop) (best : Mv) : Prop := (best = mv0 ∧ ∀ x, ¬ p x) ∨ ∃ x, best = ⟨2, x⟩ ∧ p x ∧ ∀ y, p y → cnt row y ≤ cnt row x ∧ (cnt row y = cnt row x → x ≤ y)
theorem Best.step {row : List Mv} {p q : Int → Prop} {best : Mv} {x : Int} (h : Best row p best) (hq : ∀ y, q y ↔ p y ∨ y = x) : Best row q (if better row best x = true then ⟨2, x⟩ else best) := by
  unfold better
  rcases h with ⟨rfl, h0⟩ | ⟨b, rfl, hb, hm⟩
  · rw [if_pos (by simp [mv0])]
    refine .inr ⟨x, rfl, (hq x).2 (.inr rfl), fun y hy => ?_⟩
    rcases (hq y).1 hy with h | rfl
    · exact absurd h (h0 y)
    · exact ⟨Nat.le_refl _, fun _ => Int.le_refl _⟩
  · by_cases hc : cnt row b < cnt row x ∨ cnt row x = cnt row b ∧ x < b
    · rw [if_pos (by simp; exact hc)]
      refine .inr ⟨x, rfl, (hq x).2 (.inr rfl), fun y hy => ?_⟩
      rcases (hq y).1 hy with h | rfl
      · have := hm y h
        omega
      · exact ⟨Nat.le_refl _, fun _ => Int.le_refl _⟩
    · rw [if_neg (by simp; omega)]
      refine .inr ⟨b, rfl, (hq b).2 (.inl hb), fun y hy => ?_⟩
      rcases (hq y).1 hy with h | rfl
      · exact hm y h
      · omega
theorem Best.usual {row : List Mv} {p : Int → Prop} {best : Mv} (h : Best row p best) (hp : ∀ x, p x ↔ 0 < cnt row x) : IsUsual row best := by
  rcases h with ⟨rfl, h0⟩ | ⟨x, rfl, hx, hm⟩
  · exact .inl ⟨rfl, fun x => by have := h0 x; rw [hp] at this; omega⟩
  · refine .inr ⟨x, rfl, (hp x).1 hx, fun y => ?_⟩
    have h1 := (hp x).1 hx
    by_cases hy : 0 < cnt row y
    · exact hm y ((hp y).2 hy)
    · omega
/-- The default, reckoned. -/
def usualF (row : List Mv) : Mv := row.foldl (fun best m => if m.d = 2 ∧ better row best m.n = true then ⟨2, m.n⟩ else best) mv0
theorem usual_fold (row : List Mv) : ∀ (r done : List Mv) (best : Mv), Best row (fun x => ∃ m ∈ done, m.d = 2 ∧ m.n = x) best → Best row (fun x => ∃ m ∈ done ++ r, m.d = 2 ∧ m.n = x) (r.foldl (fun best m => if m.d = 2 ∧ better row best m.n = true then ⟨2, m.n⟩ else best) best)
  | [], done, best, h => by simpa using h
  | m :: r, done, best, h => by
    rw [List.foldl_cons, show done ++ m :: r = (done ++ [m]) ++ r by simp]
    refine usual_fold row r (done ++ [m]) _ ?_
    by_cases hd : m.d = 2
    · have := Best.step (q := fun x => ∃ m' ∈ done ++ [m], m'.d = 2 ∧ m'.n = x) (x := m.n) h (fun y => by
        constructor
        · rintro ⟨m', hm', h1, h2⟩
          rcases List.mem_append.1 hm' with hm' | hm'
          · exact .inl ⟨m', hm', h1, h2⟩
          · rw [List.mem_singleton.1 hm'] at h2; exact .inr h2.symm
        · rintro (⟨m', hm', h1, h2⟩ | rfl)
          · exact ⟨m', List.mem_append_left _ hm', h1, h2⟩
          · exact ⟨m, by simp, hd, rfl⟩)
      by_cases hb : better row best m.n = true
      · rw [if_pos ⟨hd, hb⟩]; rwa [if_pos hb] at this
      · rw [if_neg (fun h => hb h.2)]; rwa [if_neg hb] at this
    · rw [if_neg (fun h => hd h.1)]
      rcases h with ⟨rfl, h0⟩ | ⟨x, rfl, hx, hm⟩
      · refine .inl ⟨rfl, fun x ⟨m', hm', h1, h2⟩ => ?_⟩
        rcases List.mem_append.1 hm' with hm' | hm'
        · exact h0 x ⟨m', hm', h1, h2⟩
        · rw [List.mem_singleton.1 hm'] at h1; exact hd h1
      · obtain ⟨m', hm', h1, h2⟩ := hx
        refine .inr ⟨x, rfl, ⟨m', List.mem_append_left _ hm', h1, h2⟩, fun y ⟨m'', hm'', h3, h4⟩ => ?_⟩
        rcases List.mem_append.1 hm'' with hm'' | hm''
        · exact hm y ⟨m'', hm'', h3, h4⟩
        · rw [List.mem_singleton.1 hm''] at h3; exact absurd h3 hd
theorem usualF_is (row : List Mv) : IsUsual row (usualF row) := by
  have := usual_fold row row [] mv0 (.inl ⟨rfl, fun x ⟨m, hm, _⟩ => by simp at hm⟩)
  refine this.usual fun x => ⟨fun ⟨m, hm, h1, h2⟩ => ?_, fun h => ?_⟩
  · rw [← h2]; exact cnt_pos (by simpa using hm) h1
  · obtain ⟨m, hm, h1, h2⟩ := cnt_mem h
    exact ⟨m, by simpa using hm, h1, h2⟩
/-- The counts as a map's entries. -/
def fC (row : List Mv) (x : Int) : Option Int := if cnt row x = 0 then none else some (cnt row x)
theorem fC_nil : (fun _ : Int => (none : Option Int)) = fC [] := by
  funext x
  simp [fC, cnt]
theorem fC_get (row : List Mv) (x : Int) : ((fC row x).map (Go.Value.int .i64)).getD (.int .i64 0) = .int .i64 (cnt row x) := by
  unfold fC
  split
  · rename_i h; rw [h]; rfl
  · rfl
theorem fC_some {row : List Mv} {x c : Int} (h : fC row x = some c) : 0 < cnt row x ∧ c = cnt row x := by
  unfold fC at h
  split at h
  · cases h
  · rename_i h0
    cases h
    exact ⟨by omega, rfl⟩
theorem fC_isSome (row : List Mv) (x : Int) : (fC row x).isSome = true ↔ 0 < cnt row x := by
  unfold fC
  split
  · rename_i h; simp [h]
  · rename_i h; simp; omega
theorem fC_step {row : List Mv} {i : Nat} (h : i < row.length) (hd : (row.getD i mv0).d = 2) : (fun y => if y = (row.getD i mv0).n then some ((cnt (row.take i) (row.getD i mv0).n : Int) + 1) else fC (row.take i) y) = fC (row.take (i + 1)) := by
  funext y
  by_cases hy : y = (row.getD i mv0).n
  · have e : cnt (row.take (i + 1)) y = cnt (row.take i) y + 1 := by rw [cnt_take h, if_pos ⟨hd, hy.symm⟩]
    rw [if_pos hy]
    unfold fC
    rw [e, if_neg (by omega), hy]
    rfl
  · have e : cnt (row.take (i + 1)) y = cnt (row.take i) y := by rw [cnt_take h, if_neg (fun g => hy g.2.symm), Nat.add_zero]
    rw [if_neg hy]
    unfold fC
    rw [e]
theorem fC_skip {row : List Mv} {i : Nat} (h : i < row.length) (hd : (row.getD i mv0).d ≠ 2) : fC (row.take i) = fC (row.take (i + 1)) := by
  funext y
  have e : cnt (row.take (i + 1)) y = cnt (row.take i) y := by rw [cnt_take h, if_neg (fun g => hd g.1), Nat.add_zero]
  unfold fC
  rw [e]
theorem cnt_i64 {row : List Mv} (hw : ∀ m ∈ row, I64 m.n) {x : Int} (h : 0 < cnt row x) : I64 x := by
  obtain ⟨m, hm, _, rfl⟩ := cnt_mem h
  exact hw m hm
theorem Best.i64 {row : List Mv} {p : Int → Prop} {best : Mv} (hw : ∀ m ∈ row, I64 m.n) (hp : ∀ x, p x → 0 < cnt row x) (h : Best row p best) : I64 best.n := by
  rcases h with ⟨rfl, _⟩ | ⟨x, rfl, hx, _⟩
  · show I64 0; unfold I64; omega
  · exact cnt_i64 hw (hp x hx)
theorem left_step {row : List Mv} {left left2 : Int → Bool} {kx : Int} (hw : ∀ m ∈ row, I64 m.n) (hc0 : 0 < cnt row kx) (h4 : ∀ y, (Go.Lit.int .i64 y).wf = true → (left2 y = true ↔ left y = true ∧ y ≠ kx)) :
    ∀ y, (0 < cnt row y ∧ left2 y = false) ↔ (0 < cnt row y ∧ left y = false) ∨ y = kx := by
  intro y
  by_cases hc : 0 < cnt row y
  · have h := h4 y (wf64 (cnt_i64 hw hc))
    by_cases hy : y = kx
    · subst hy
      have : left2 y = false := by
        cases h1 : left2 y
        · rfl
        · exact absurd rfl (h.1 h1).2
      exact ⟨fun _ => .inr rfl, fun _ => ⟨hc, this⟩⟩
    · have : left2 y = left y := by
        cases h1 : left2 y <;> cases h2 : left y <;> first | rfl | skip
        · have := h.2 ⟨h2, hy⟩; rw [h1] at this; cases this
        · have := (h.1 h1).1; rw [h2] at this; cases this
      rw [this]
      exact ⟨fun g => .inl g, fun g => g.resolve_right hy⟩
  · constructor
    · rintro ⟨h, _⟩; exact absurd h hc
    · rintro (⟨h, _⟩ | rfl)
      · exact absurd h hc
      · exact absurd hc0 hc
end Go.Proofs.YtkpehkadammppaaFx

/-! The default of a row, as the document reckons it. -/
namespace Go.Proofs.YtkpehkadammppaaFx
open Go
def RU (row : List Mv) (i : Nat) (best most : Int) : Prop := (most = 0 ∧ best = -1 ∧ ∀ j, j < i → (row.getD j mv0).d ≠ 2) ∨ (0 < most ∧ most = cnt row best ∧ ∀ j, j < i → (row.getD j mv0).d = 2 → (cnt row (row.getD j mv0).n : Int) < most ∨ ((cnt row (row.getD j mv0).n : Int) = most ∧ best ≤ (row.getD j mv0).n))
theorem RU.skip {row : List Mv} {i : Nat} {best most : Int} (h : RU row i best most) (hd : (row.getD i mv0).d ≠ 2) : RU row (i + 1) best most := by
  rcases h with ⟨h1, h2, h3⟩ | ⟨h1, h2, h3⟩
  · exact .inl ⟨h1, h2, upto_succ h3 hd⟩
  · exact .inr ⟨h1, h2, upto_succ h3 (fun h => absurd h hd)⟩
theorem RU.keep {row : List Mv} {i : Nat} {best most : Int} (h : RU row i best most) (hi : i < row.length) (hd : (row.getD i mv0).d = 2) (hb : ¬ ((cnt row (row.getD i mv0).n : Int) > most ∨ ((cnt row (row.getD i mv0).n : Int) = most ∧ (row.getD i mv0).n < best))) : RU row (i + 1) best most := by
  have hp := cnt_pos (getD_mem (z := mv0) hi) hd
  rcases h with ⟨h1, h2, h3⟩ | ⟨h1, h2, h3⟩
  · omega
  · exact .inr ⟨h1, h2, upto_succ h3 (fun _ => by omega)⟩
theorem RU.take {row : List Mv} {i : Nat} {best most : Int} (h : RU row i best most) (hi : i < row.length) (hd : (row.getD i mv0).d = 2) (hb : (cnt row (row.getD i mv0).n : Int) > most ∨ ((cnt row (row.getD i mv0).n : Int) = most ∧ (row.getD i mv0).n < best)) : RU row (i + 1) (row.getD i mv0).n (cnt row (row.getD i mv0).n) := by
  have hp := cnt_pos (getD_mem (z := mv0) hi) hd
  rcases h with ⟨h1, h2, h3⟩ | ⟨h1, h2, h3⟩
  · exact .inr ⟨by omega, rfl, upto_succ (fun j hj h => absurd h (h3 j hj)) (fun _ => .inr ⟨rfl, Int.le_refl _⟩)⟩
  · exact .inr ⟨by omega, rfl, upto_succ (fun j hj h => by have := h3 j hj h; omega) (fun _ => .inr ⟨rfl, Int.le_refl _⟩)⟩
theorem mem_getD {row : List Mv} {m : Mv} (h : m ∈ row) : ∃ j, j < row.length ∧ row.getD j mv0 = m := by
  obtain ⟨j, hj, he⟩ := List.mem_iff_getElem.1 h
  exact ⟨j, hj, by rw [List.getD_eq_getElem?_getD, List.getElem?_eq_getElem hj]; exact he⟩
theorem RU.fin {row : List Mv} {i : Nat} {best most : Int} (h : RU row i best most) (hi : ¬ ((i : Int) < row.length)) : (best < 0 ∧ most = 0 → usualF row = mv0) ∧ (¬ (best < 0 ∧ most = 0) → usualF row = ⟨2, best⟩) := by
  refine ⟨fun hc => ?_, fun hc => ?_⟩
  · rcases h with ⟨h1, h2, h3⟩ | ⟨h1, h2, h3⟩
    · refine (usualF_is row).unique (.inl ⟨rfl, fun x => ?_⟩)
      rcases Nat.eq_zero_or_pos (cnt row x) with h0 | h0
      · exact h0
      · obtain ⟨m, hm, hd, _⟩ := cnt_mem h0
        obtain ⟨j, hj, rfl⟩ := mem_getD hm
        exact absurd hd (h3 j (by omega))
    · omega
  · rcases h with ⟨h1, h2, h3⟩ | ⟨h1, h2, h3⟩
    · omega
    · refine (usualF_is row).unique (.inr ⟨best, rfl, by omega, fun y => ?_⟩)
      rcases Nat.eq_zero_or_pos (cnt row y) with h0 | h0
      · omega
      · obtain ⟨m, hm, hd, rfl⟩ := cnt_mem h0
        obtain ⟨j, hj, rfl⟩ := mem_getD hm
        have := h3 j (by omega) hd
        omega
theorem cnt_hit {row : List Mv} {s : Nat} {m : Mv} (h : s < row.length) (he : row.getD s mv0 = m) (hd : m.d = 2) : cnt (row.take (s + 1)) m.n = cnt (row.take s) m.n + 1 := by
  rw [cnt_take h, he, if_pos ⟨hd, rfl⟩]
theorem cnt_miss {row : List Mv} {s : Nat} {m : Mv} (h : s < row.length) (he : ¬ row.getD s mv0 = m) (hd : m.d = 2) : cnt (row.take (s + 1)) m.n = cnt (row.take s) m.n := by
  rw [cnt_take h, if_neg (fun hh => he (by
    obtain ⟨h1, h2⟩ := hh
    revert h1 h2 hd
    cases row.getD s mv0
    cases m
    intro hd h1 h2
    simp_all)), Nat.add_zero]
end Go.Proofs.YtkpehkadammppaaFx

/-! A table with its defaults. -/
namespace Go.Proofs.YtkpehkadammppaaFx
open Go Go.RowKit
def dfm (row : List Mv) (m : Mv) : Mv := if m.d = 0 then usualF row else m
def dfRow (row : List Mv) : List Mv := row.map (dfm row)
def dfUpto (row : List Mv) (s : Nat) : List Mv := (row.take s).map (dfm row) ++ row.drop s
theorem dfUpto_len (row : List Mv) (s : Nat) : (dfUpto row s).length = row.length := by
  simp only [dfUpto, List.length_append, List.length_map, List.length_take, List.length_drop]; omega
theorem dfUpto_get {row : List Mv} {s : Nat} (h : s < row.length) : (dfUpto row s).getD s mv0 = row.getD s mv0 := by
  have hl : ((row.take s).map (dfm row)).length = s := by simp; omega
  rw [dfUpto, List.getD_eq_getElem?_getD, List.getElem?_append_right (by omega), hl, Nat.sub_self, List.getElem?_drop, Nat.add_zero, ← List.getD_eq_getElem?_getD]
theorem dfUpto_next {row : List Mv} {s : Nat} (h : s < row.length) : dfUpto row (s + 1) = (dfUpto row s).set s (dfm row (row.getD s mv0)) := by
  have hl : ((row.take s).map (dfm row)).length = s := by simp; omega
  unfold dfUpto
  rw [List.set_append_right _ _ (by omega), hl, Nat.sub_self, take_succ' mv0 h, List.map_append, List.append_assoc]
  congr 1
  have : row.drop s = row.getD s mv0 :: row.drop (s + 1) := by
    rw [List.getD_eq_getElem?_getD, List.getElem?_eq_getElem h]
    exact List.drop_eq_getElem_cons h
  rw [this, List.set_cons_zero]
  rfl
theorem dfUpto_keep {row : List Mv} {s : Nat} (h : s < row.length) (hd : ¬ (row.getD s mv0).d = 0) : dfUpto row (s + 1) = dfUpto row s := by
  rw [dfUpto_next h, dfm, if_neg hd]
  have := dfUpto_get h
  rw [← this]
  apply List.ext_getElem?
  intro j
  rcases Nat.decEq s j with hj | hj
  · rw [List.getElem?_set_ne hj]
  · subst hj
    have hl : s < (dfUpto row s).length := by rw [dfUpto_len]; exact h
    rw [List.getElem?_set_self hl, List.getD_eq_getElem?_getD, List.getElem?_eq_getElem hl]
    rfl
theorem dfUpto_all {row : List Mv} {s : Nat} (h : ¬ ((s : Int) < row.length)) : dfUpto row s = dfRow row := by
  rw [dfUpto, take_all h, List.drop_of_length_le (by omega), List.append_nil]
  rfl
theorem dfUpto_zero (row : List Mv) : dfUpto row 0 = row := rfl
theorem map_take_succ {α β : Type} {xs : List α} {i : Nat} (z : α) (g : α → β) (h : i < xs.length) : (xs.take (i + 1)).map g = (xs.take i).map g ++ [g (xs.getD i z)] := by
  rw [take_succ' z h, List.map_append]
  rfl
/-- The table with its defaults. -/
def dfT (t : Tb) : Tb := ⟨t.mv.map dfRow, t.go⟩
/-- What Defaults answers. -/
noncomputable def dfAns (t : Tb) : Tb := if dec (Rect t) then dfT t else ⟨[], []⟩
noncomputable def dfErr (t : Tb) : Int := if dec (Rect t) then 0 else 170
theorem dfAns_t {t : Tb} (h : dec (Rect t) = true) : dfAns t = dfT t ∧ dfErr t = 0 := by
  rw [dfAns, dfErr, h]; exact ⟨rfl, rfl⟩
theorem dfAns_f {t : Tb} (h : dec (Rect t) = false) : dfAns t = ⟨[], []⟩ ∧ dfErr t = 170 := by
  rw [dfAns, dfErr, h]; exact ⟨rfl, rfl⟩
/-- A table of the call's own. -/
def OwnT (v1 v2 : Value) (t : Tb) : List Ch := [RR fMv 38 48 v1 t.mv, RR (fInt .i64) 39 3 v2 t.go]
section
variable {α : Type} {f : Fk α} {P : Program} {n : Nat} {Q : Post} {l : Fr} {w W0 : World} {L : List Ch} {ops : Array Oper} {rest : List Oper} {d : Nat} {x sx : Operand} {ty t e : TypeId} {pos : String} {af : Array Edge} {v : Value} {A : Option Addr}
/-- append(nil, ys...): a copy. -/
theorem wl_copy {z : Value} {bytes c' : Nat} {ys : List α} (H : Holds W0 L w) (hn : Nat.ble (d + 1) n = true)
    (ht : P.underlying t = some (.slice e)) (hi : (P.info? e).map (fun i => (i.zero, i.size, i.bytes)) = some (some z, f.sz, bytes)) (hz : z.cells.size = f.sz) (hs0 : 0 < f.sz)
    (hs : ev l sx = some (.slice none 0 0)) (hx : ev l x = some (.slice A ys.length c')) (hr : Rd f.kn w A ys) (hb : ys.length * bytes ≤ 140737488355328) (hb0 : 0 < bytes)
    (h : ∀ A c w', Holds W0 (Row f e (.slice A ys.length c) ys :: L) w' → w.heap.size ≤ w'.heap.size → wl P n ops rest Q ((d, .slice A ys.length c) :: l) w') : wl P n ops (⟨some d, .call { callee := .builtin .append, args := #[sx, x], argTypes := #[t, t] }, ty, pos, af, none⟩ :: rest) Q l w := by
  have Hn : Holds W0 (Row f e (.slice none 0 0) [] :: L) w := H.nilrow e f.sz
  refine wl_appR (xs := []) (ys := ys) (L' := fun v' => Row f e v' ys :: L) Hn (fun v' => .here _ _ _) hn ht hi hz hs0 hs hx hr (by simpa using hb) hb0 (fun A c w' H' hsz => h A c w' H' hsz)
end
end Go.Proofs.YtkpehkadammppaaFx

/-! What table.free tells. -/
namespace Go.Proofs.Ytkpehkadammppaa.Free
open Go Go.RowKit Go.Proofs.YtkpehkadammppaaFx 
theorem one3 : One Try.prog 3 := one_of Try.underlying3 rfl (by kernel_rfl)
theorem sz3 : ∀ W, (sizeOf 3).run Try.prog W = .ok 1 W := size_of (by kernel_rfl)

def freeB (check row : List Int) (b : Int) : Bool := row.all fun k => !(decide (b + k < check.length) && decide (0 ≤ check.getD (b + k).toNat 0))

set_option maxRecDepth 100000 in
theorem free_calls {A B : Option Addr} {ca cb : Nat} {check row : List Int} {b : Int} {w : World} (hr : Rd (kInt .i64) w A check) (hq : Rd (kInt .i64) w B row) (hm : check.length ≤ maxLen) (hm2 : row.length ≤ maxLen) (hb : 0 ≤ b ∧ b ≤ 1152921504606846976) (hk : ∀ k ∈ row, 0 ≤ k ∧ k ≤ 1152921504606846976) :
    Calls Try.prog 58 #[.slice A check.length ca, .slice B row.length cb, .int .i64 b] w fun e w' => ∃ v, e = .returned v ∧ v = .bool (freeB check row b) ∧ Holds w [] w' := by
  unfold maxLen at hm hm2
  refine calls_of Try.func58 rfl Try.ntmps58 rfl ?_
  have H := Holds.start w
  refine wc_seq ?_
  refine wc_region ?_
  refine wl_v rfl rfl rfl (v_assign rfl) ?_
  refine wl_nil ?_
  refine wc_seq ?_
  refine wc_seq ?_
  refine wc_region ?_
  refine wl_v rfl rfl rfl (v_move rfl) ?_
  refine wl_v rfl rfl rfl (v_len Try.underlying39 rfl) ?_
  refine wl_v rfl rfl rfl (v_move rfl) ?_
  refine wl_nil ?_
  refine wc_block ?_
  refine wc_loop (σ := Nat) (fun s => [(0, .slice A check.length ca), (2, .int .i64 b), (9, .slice B row.length cb), (10, .int .i64 row.length), (11, .int .i64 s)]) (fun s W => s ≤ row.length ∧ (row.take s).all (fun k => !(decide (b + k < check.length) && decide (0 ≤ check.getD (b + k).toNat 0))) = true ∧ Holds w [] W) (fun s => row.length - s) 0 (sc rfl (sc rfl (sc rfl (sc rfl (sc rfl (sn _)))))) ⟨Nat.zero_le _, rfl, H⟩ ?_
  rintro i W0 ⟨hi, ha, H⟩
  refine wc_seq ?_
  refine wc_region ?_
  refine wl_v rfl rfl rfl (v_lss rfl rfl) ?_
  refine wl_nil ?_
  refine wc_seq ?_
  refine wc_cond rfl (fun c0 => ?_) (fun c0 => ?_)
  ·have c0p := of_decide_eq_true c0
   have hin : i < row.length := by omega
   have hkk := hk (row.getD (i : Int).toNat 0) (getD_mem (by omega))
   refine wc_skip ?_
   refine wc_seq ?_
   refine wc_block ?_
   refine wc_seq ?_
   refine wc_region ?_
   refine wl_v rfl rfl rfl (v_idx Try.underlying39 sz3 hq.ad rfl rfl (by omega) (by omega)) ?_
   refine wl_v rfl rfl rfl (v_load one3 rfl (H.cell (hq.at1 (by omega) (by omega)))) ?_
   refine wl_v rfl rfl rfl (v_assign rfl) ?_
   refine wl_nil ?_
   refine wc_seq ?_
   refine wc_region ?_
   refine wl_v rfl rfl rfl (v_move rfl) ?_
   refine wl_v rfl rfl rfl (v_move rfl) ?_
   refine wl_v rfl rfl rfl (v_addi rfl rfl (by omega)) ?_
   refine wl_v rfl rfl rfl (v_move rfl) ?_
   refine wl_v rfl rfl rfl (v_len Try.underlying39 rfl) ?_
   refine wl_v rfl rfl rfl (v_lss rfl rfl) ?_
   refine wl_v rfl rfl rfl (v_move rfl) ?_
   refine wl_guard rfl rfl rfl (fun g21 => ?_) (fun g21 => ?_)
   ·have g21p := of_decide_eq_true g21
    refine wl_v rfl rfl rfl (v_move rfl) ?_
    refine wl_on' rfl rfl g21 ?_
    refine wl_v rfl rfl rfl (v_move rfl) ?_
    refine wl_on' rfl rfl g21 ?_
    refine wl_v rfl rfl rfl (v_move rfl) ?_
    refine wl_on' rfl rfl g21 ?_
    refine wl_v rfl rfl rfl (v_addi rfl rfl (by omega)) ?_
    refine wl_on' rfl rfl g21 ?_
    refine wl_v rfl rfl rfl (v_idx Try.underlying39 sz3 hr.ad rfl rfl (by omega) (by omega)) ?_
    refine wl_on' rfl rfl g21 ?_
    refine wl_v rfl rfl rfl (v_load one3 rfl (H.cell (hr.at1 (by omega) (by omega)))) ?_
    refine wl_on' rfl rfl g21 ?_
    refine wl_v rfl rfl rfl (v_geq rfl rfl) ?_
    refine wl_v rfl rfl rfl (v_pick_t rfl g21 rfl) ?_
    refine wl_nil ?_
    refine wc_cond rfl (fun c1 => ?_) (fun c1 => ?_)
    ·have c1p := of_decide_eq_true c1
     refine wc_seq ?_
     refine wc_region ?_
     refine wl_v rfl rfl rfl (v_assign rfl) ?_
     refine wl_nil ?_
     refine wc_ret ?_
     first
       | exact ⟨_, res1 rfl rfl, congrArg Value.bool (by unfold freeB; rw [take_all c0p] at ha; exact ha.symm), H⟩
       | exact ⟨_, res1 rfl rfl, congrArg Value.bool (by unfold freeB; symm; refine all_not 0 hin ?_; rw [← getD_nat]; simp only [Bool.not_eq_false', Bool.and_eq_true, decide_eq_true_eq]; omega), H⟩
    ·have c1p := of_decide_eq_false c1
     refine wc_skip ?_
     refine wc_region ?_
     refine wl_v rfl rfl rfl (v_addi rfl rfl (by omega)) ?_
     refine wl_v rfl rfl rfl (v_move rfl) ?_
     refine wl_nil ?_
     exact ⟨i + 1, (sc rfl (sc rfl (sc rfl (sc rfl (sc rfl (sn _)))))), ⟨by omega, by rw [all_succ 0 hin, ha, ← getD_nat]; simp only [Bool.true_and, Bool.not_eq_true', Bool.and_eq_false_iff, decide_eq_false_iff_not]; omega, H⟩, by omega⟩
   ·have g21p := of_decide_eq_false g21
    refine wl_off rfl rfl g21 rfl ?_
    refine wl_off rfl rfl g21 rfl ?_
    refine wl_off rfl rfl g21 rfl ?_
    refine wl_off rfl rfl g21 rfl ?_
    refine wl_off rfl rfl g21 rfl ?_
    refine wl_off rfl rfl g21 rfl ?_
    refine wl_v rfl rfl rfl (v_pick_f rfl g21 rfl) ?_
    refine wl_nil ?_
    refine wc_cond_f rfl ?_
    refine wc_skip ?_
    refine wc_region ?_
    refine wl_v rfl rfl rfl (v_addi rfl rfl (by omega)) ?_
    refine wl_v rfl rfl rfl (v_move rfl) ?_
    refine wl_nil ?_
    exact ⟨i + 1, (sc rfl (sc rfl (sc rfl (sc rfl (sc rfl (sn _)))))), ⟨by omega, by rw [all_succ 0 hin, ha, ← getD_nat]; simp only [Bool.true_and, Bool.not_eq_true', Bool.and_eq_false_iff, decide_eq_false_iff_not]; omega, H⟩, by omega⟩
  ·have c0p := of_decide_eq_false c0
   refine wc_exit ?_
   refine wc_seq ?_
   refine wc_region ?_
   refine wl_v rfl rfl rfl (v_assign rfl) ?_
   refine wl_nil ?_
   refine wc_ret ?_
   first
     | exact ⟨_, res1 rfl rfl, congrArg Value.bool (by unfold freeB; rw [take_all c0p] at ha; exact ha.symm), H⟩
     | exact ⟨_, res1 rfl rfl, congrArg Value.bool (by unfold freeB; symm; refine all_not 0 hin ?_; rw [← getD_nat]; simp only [Bool.not_eq_false', Bool.and_eq_true, decide_eq_true_eq]; omega), H⟩
end Go.Proofs.Ytkpehkadammppaa.Free

/-! How rows are laid over one another. -/
namespace Go.Proofs.YtkpehkadammppaaFx
open Go Go.RowKit Go.Proofs.Ytkpehkadammppaa.Free
def padTo (c : List Int) (n : Nat) : List Int := c ++ List.replicate (n - c.length) (-1)
def putAt (c : List Int) (at_ s : Int) : List Int := (padTo c (at_.toNat + 1)).set at_.toNat s
def firstFree (c row : List Int) : Nat := ((List.range (c.length + 1)).find? fun (b : Nat) => freeB c row (b : Int)).getD c.length
theorem freeB_end {c row : List Int} {b : Int} (hb : (c.length : Int) ≤ b) (hk : ∀ k ∈ row, 0 ≤ k) : freeB c row b = true := by
  unfold freeB
  rw [List.all_eq_true]
  intro k hk'
  have := hk k hk'
  simp only [Bool.not_eq_true', Bool.and_eq_false_iff, decide_eq_false_iff_not]
  omega
theorem firstFree_is {c row : List Int} {b : Nat} (h : ∀ b', b' < b → freeB c row (b' : Int) = false) (hf : freeB c row (b : Int) = true) (hb : b ≤ c.length) : firstFree c row = b := by
  unfold firstFree
  have : (List.range (c.length + 1)).find? (fun (b : Nat) => freeB c row (b : Int)) = some b := by
    rw [List.find?_range_eq_some]
    exact ⟨hf, List.mem_range.2 (by omega), fun j hj => by simp [h j hj]⟩
  rw [this]
  rfl
theorem firstFree_le (c row : List Int) : firstFree c row ≤ c.length := by
  unfold firstFree
  cases h : (List.range (c.length + 1)).find? fun (b : Nat) => freeB c row (b : Int) with
  | none => exact Nat.le_refl _
  | some b =>
    have := List.mem_of_find?_eq_some h
    rw [List.mem_range] at this
    exact Nat.le_of_lt_succ this
abbrev LS := List Int × List Int
def putsN (c row : List Int) (b s : Int) (j : Nat) : List Int := (row.take j).foldl (fun c k => putAt c (b + k) s) c
def stepF (rows : List (List Int)) (st : LS) (s : Int) : LS :=
  (st.1.set s.toNat (firstFree st.2 (rows.getD s.toNat [])), putsN st.2 (rows.getD s.toNat []) (firstFree st.2 (rows.getD s.toNat [])) s (rows.getD s.toNat []).length)
def stN (rows : List (List Int)) (ord : List Int) (i : Nat) : LS := (ord.take i).foldl (stepF rows) (List.replicate rows.length 0, [])
def laidF (rows : List (List Int)) (ord : List Int) (least : Int) : LS := ((stN rows ord ord.length).1, padTo (stN rows ord ord.length).2 least.toNat)
theorem stN_succ {rows : List (List Int)} {ord : List Int} {i b : Nat} (h : i < ord.length) (hb : firstFree (stN rows ord i).2 (rows.getD (ord.getD i 0).toNat []) = b) :
    stN rows ord (i + 1) = ((stN rows ord i).1.set (ord.getD i 0).toNat b, putsN (stN rows ord i).2 (rows.getD (ord.getD i 0).toNat []) b (ord.getD i 0) (rows.getD (ord.getD i 0).toNat []).length) := by
  have e : stN rows ord (i + 1) = stepF rows (stN rows ord i) (ord.getD i 0) := by
    unfold stN
    rw [take_succ' 0 h, List.foldl_append]
    rfl
  rw [e, stepF, hb]
theorem stN_len (rows : List (List Int)) (ord : List Int) (i : Nat) : (stN rows ord i).1.length = rows.length := by
  unfold stN
  generalize ord.take i = l
  have : ∀ (l : List Int) (st : LS), (l.foldl (stepF rows) st).1.length = st.1.length := by
    intro l
    induction l with
    | nil => exact fun st => rfl
    | cons s r ih =>
      intro st
      rw [List.foldl_cons, ih]
      simp [stepF]
  rw [this, List.length_replicate]
theorem putsN_succ {c row : List Int} {b s : Int} {j : Nat} (h : j < row.length) : putsN c row b s (j + 1) = putAt (putsN c row b s j) (b + row.getD j 0) s := by
  unfold putsN
  rw [take_succ' 0 h, List.foldl_append]
  rfl
theorem take_done {row : List Int} {j : Nat} {c : List Int} {b s : Int} (h : ¬ ((j : Int) < row.length)) : putsN c row b s row.length = putsN c row b s j := by
  unfold putsN
  rw [take_all h, List.take_length]
/-- -1 put behind, q times. -/
def padN (C : List Int) : Nat → List Int
  | 0 => C
  | q + 1 => padN C q ++ [-1]
theorem padN_eq (C : List Int) : ∀ q, padN C q = C ++ List.replicate q (-1)
  | 0 => by simp [padN]
  | q + 1 => by rw [padN, padN_eq C q, List.append_assoc, ← List.replicate_succ']
theorem padN_len (C : List Int) (q : Nat) : (padN C q).length = C.length + q := by rw [padN_eq]; simp
theorem pad_is {C : List Int} {q n : Nat} (h : q = 0 ∨ C.length + q ≤ n) (h2 : n ≤ C.length + q) : padN C q = padTo C n := by
  rw [padN_eq]
  unfold padTo
  rw [show n - C.length = q by omega]
theorem len_set (xs : List Int) (i : Nat) (a : Int) : (xs.set i a).length = xs.length := List.length_set
theorem padTo_len (c : List Int) (n : Nat) : (padTo c n).length = max c.length n := by
  simp only [padTo, List.length_append, List.length_replicate]
  omega
theorem putAt_len (c : List Int) (a s : Int) : (putAt c a s).length = max c.length (a.toNat + 1) := by
  rw [putAt, List.length_set, padTo_len]
def iota (n : Nat) : List Int := (List.range n).map fun (j : Nat) => (j : Int)
def fillN (n s : Nat) : List Int := iota s ++ List.replicate (n - s) 0
theorem fillN_len {n s : Nat} (h : s ≤ n) : (fillN n s).length = n := by
  simp [fillN, iota]; omega
theorem fillN_next {n s : Nat} (h : s < n) : (fillN n s).set s (s : Int) = fillN n (s + 1) := by
  unfold fillN iota
  have hl : ((List.range s).map fun j : Nat => (j : Int)).length = s := by simp
  rw [List.set_append_right _ _ (by omega), hl, Nat.sub_self, show n - s = (n - (s + 1)) + 1 by omega, List.replicate_succ, List.set_cons_zero, List.range_succ, List.map_append, List.append_assoc]
  rfl
theorem fillN_all {n s : Nat} (h : s ≤ n) (h2 : ¬ ((s : Int) < n)) : fillN n s = iota n := by
  have : s = n := by omega
  subst this
  simp [fillN]
end Go.Proofs.YtkpehkadammppaaFx

/-! Packed tables as plain data; what they say of a state and a kind. -/
namespace Go.Proofs.YtkpehkadammppaaFx
open Go Go.RowKit
theorem wrap_cases {x : Int} (h1 : -9223372036854775808 ≤ x) (h2 : x < 18446744073709551616) : (x ≤ 9223372036854775807 ∧ IntKind.i64.wrap x = x) ∨ (9223372036854775807 < x ∧ IntKind.i64.wrap x = x - 18446744073709551616) := by
  have e1 : (2 ^ IntKind.i64.bits : Int) = 18446744073709551616 := rfl
  have e2 : (2 ^ (IntKind.i64.bits - 1) : Int) = 9223372036854775808 := rfl
  have e3 : IntKind.i64.signed = true := rfl
  unfold IntKind.wrap
  simp only [e1, e2, e3, Bool.true_and, decide_eq_true_eq]
  split <;> omega
/-- A packed table. -/
structure Pk where
  kinds : Int
  rules : Int
  dflt : List Mv
  base : List Int
  check : List Int
  cell : List Mv
  gbase : List Int
  gcheck : List Int
  gcell : List Int
  deriving DecidableEq
/-- Where its rows lie. -/
structure PkA where
  d : Option Addr
  b : Option Addr
  c : Option Addr
  e : Option Addr
  gb : Option Addr
  gc : Option Addr
  ge : Option Addr
  kd : Nat
  kb : Nat
  kc : Nat
  ke : Nat
  kgb : Nat
  kgc : Nat
  kge : Nat
abbrev Pk.cells (p : Pk) (a : PkA) : List Value := [.int .i64 p.kinds, .int .i64 p.rules, .slice a.d p.dflt.length a.kd, .slice a.b p.base.length a.kb, .slice a.c p.check.length a.kc, .slice a.e p.cell.length a.ke, .slice a.gb p.gbase.length a.kgb, .slice a.gc p.gcheck.length a.kgc, .slice a.ge p.gcell.length a.kge]
abbrev Pk.val (p : Pk) (a : PkA) : Value := .agg #[.int .i64 p.kinds, .int .i64 p.rules, .slice a.d p.dflt.length a.kd, .slice a.b p.base.length a.kb, .slice a.c p.check.length a.kc, .slice a.e p.cell.length a.ke, .slice a.gb p.gbase.length a.kgb, .slice a.gc p.gcheck.length a.kgc, .slice a.ge p.gcell.length a.kge]
structure Pk.rd (p : Pk) (w : World) (a : PkA) : Prop where
  d : Rd fMv.kn w a.d p.dflt
  b : Rd (kInt .i64) w a.b p.base
  c : Rd (kInt .i64) w a.c p.check
  e : Rd fMv.kn w a.e p.cell
  gb : Rd (kInt .i64) w a.gb p.gbase
  gc : Rd (kInt .i64) w a.gc p.gcheck
  ge : Rd (kInt .i64) w a.ge p.gcell
theorem Pk.rd.below {p : Pk} {w w' : World} {a : PkA} (h : p.rd w a) (hb : Below w.heap.size w w') : p.rd w' a := ⟨h.d.below hb, h.b.below hb, h.c.below hb, h.e.below hb, h.gb.below hb, h.gc.below hb, h.ge.below hb⟩
/-- Its numbers are numbers of int64, its rows of memory's length. -/
structure Pk.ok (p : Pk) : Prop where
  ik : I64 p.kinds
  ir : I64 p.rules
  d : p.dflt.length ≤ 1099511627776
  b : p.base.length ≤ 1099511627776
  c : p.check.length ≤ 1099511627776
  e : p.cell.length ≤ 1099511627776
  gb : p.gbase.length ≤ 1099511627776
  gc : p.gcheck.length ≤ 1099511627776
  ge : p.gcell.length ≤ 1099511627776
  ib : ∀ x ∈ p.base, I64 x
  igb : ∀ x ∈ p.gbase, I64 x
/-- Where a state's cell lies, or -1. -/
def cellF (base check : List Int) (cells s k : Int) : Int :=
  if s < base.length ∧ 0 ≤ base.getD s.toNat 0 + k ∧ base.getD s.toNat 0 + k < check.length ∧ base.getD s.toNat 0 + k < cells ∧ check.getD (base.getD s.toNat 0 + k).toNat 0 = s then base.getD s.toNat 0 + k else -1
def lookMv (p : Pk) (s k : Int) : Mv :=
  if s < 0 ∨ s ≥ p.dflt.length ∨ k < 0 ∨ k ≥ p.kinds then mv0 else if cellF p.base p.check p.cell.length s k < 0 then p.dflt.getD s.toNat mv0 else p.cell.getD (cellF p.base p.check p.cell.length s k).toNat mv0
def lookGo (p : Pk) (s r : Int) : Int :=
  if s < 0 ∨ s ≥ p.dflt.length ∨ r < 0 ∨ r ≥ p.rules then -1 else if cellF p.gbase p.gcheck p.gcell.length s r < 0 then -1 else p.gcell.getD (cellF p.gbase p.gcheck p.gcell.length s r).toNat 0
theorem cellF_lt {base check : List Int} {cells s k : Int} : cellF base check cells s k < cells ∨ cellF base check cells s k < 0 := by
  unfold cellF; split <;> omega
theorem cellF_no {base check : List Int} {cells s k : Int} (h : ¬ (s < base.length ∧ 0 ≤ base.getD s.toNat 0 + k ∧ base.getD s.toNat 0 + k < check.length ∧ base.getD s.toNat 0 + k < cells ∧ check.getD (base.getD s.toNat 0 + k).toNat 0 = s)) : cellF base check cells s k = -1 := if_neg h
theorem cellF_yes {base check : List Int} {cells s k : Int} (h : s < base.length ∧ 0 ≤ base.getD s.toNat 0 + k ∧ base.getD s.toNat 0 + k < check.length ∧ base.getD s.toNat 0 + k < cells ∧ check.getD (base.getD s.toNat 0 + k).toNat 0 = s) : cellF base check cells s k = base.getD s.toNat 0 + k := if_pos h
end Go.Proofs.YtkpehkadammppaaFx

/-! Tables packed: plain definitions. -/
namespace Go.Proofs.YtkpehkadammppaaFx
open Go Go.RowKit Go.Proofs.Ytkpehkadammppaa.Free
def keepM (row : List Mv) (k : Nat) : Bool := !decide (row.getD k mv0 = usualF row) && !decide ((row.getD k mv0).d = 0)
def keepG (row : List Int) (k : Nat) : Bool := decide (0 ≤ row.getD k 0)
def pkUpto (p : Nat → Bool) (j : Nat) : List Int := ((List.range j).filter p).map fun (k : Nat) => (k : Int)
theorem pkUpto_take {p : Nat → Bool} {j : Nat} (h : p j = true) : pkUpto p (j + 1) = pkUpto p j ++ [(j : Int)] := by
  simp [pkUpto, List.range_succ, h]
theorem pkUpto_skip {p : Nat → Bool} {j : Nat} (h : p j = false) : pkUpto p (j + 1) = pkUpto p j := by
  simp [pkUpto, List.range_succ, h]
theorem pkUpto_len (p : Nat → Bool) (j : Nat) : (pkUpto p j).length ≤ j := by
  unfold pkUpto
  rw [List.length_map]
  exact Nat.le_trans (List.length_filter_le _ _) (by simp)
theorem pkUpto_mem {p : Nat → Bool} {j : Nat} {k : Int} (h : k ∈ pkUpto p j) : 0 ≤ k ∧ k < j ∧ p k.toNat = true := by
  unfold pkUpto at h
  obtain ⟨a, ha, rfl⟩ := List.mem_map.1 h
  obtain ⟨h1, h2⟩ := List.mem_filter.1 ha
  rw [List.mem_range] at h1
  exact ⟨by omega, by omega, by simpa using h2⟩
def pkRow (row : List Mv) : List Int := pkUpto (keepM row) row.length
def goRow (row : List Int) : List Int := pkUpto (keepG row) row.length
/-- The order in which rows are laid, and that sort.SliceStable finds it. -/
structure SortOk (P : Program) (rows : List (List Int)) (ord : List Int) : Prop where
  len : ord.length = rows.length
  nd : ord.Nodup
  lt : ∀ x ∈ ord, 0 ≤ x ∧ x < rows.length
  run : ∀ (w W : World) (A A15 : Option Addr) (ca b2 b6 : Nat), Rd (kInt .i64).sl w A rows → Holds w [Row (fInt .i64) 3 (.slice A15 rows.length rows.length) (iota rows.length), Blk b6 39 [.slice A15 rows.length rows.length], Blk b2 23 [.slice A rows.length ca]] W →
      Calls P 56 #[.iface 39 (.slice A15 rows.length rows.length), .func (.func 57) #[] #[.pointer (some ⟨b2, 0, none⟩), .pointer (some ⟨b6, 0, none⟩)]] W fun e w' => ∃ v, e = .returned v ∧ v = .tuple #[] ∧ Holds w [Row (fInt .i64) 3 (.slice A15 rows.length rows.length) ord, Blk b6 39 [.slice A15 rows.length rows.length], Blk b2 23 [.slice A rows.length ca]] w'
theorem padTo_get (c : List Int) (n j : Nat) : (padTo c n).getD j (-1) = c.getD j (-1) := by
  unfold padTo
  rw [List.getD_eq_getElem?_getD, List.getD_eq_getElem?_getD]
  rcases Nat.lt_or_ge j c.length with h | h
  · rw [List.getElem?_append_left h]
  · rw [List.getElem?_append_right h, List.getElem?_eq_none h, List.getElem?_replicate]
    split <;> rfl
theorem putAt_get (c : List Int) (a s : Int) (j : Nat) : (putAt c a s).getD j (-1) = if j = a.toNat then s else c.getD j (-1) := by
  unfold putAt
  rw [List.getD_eq_getElem?_getD, List.getElem?_set]
  by_cases h : a.toNat = j
  · rw [if_pos h, if_pos h.symm, if_pos (by rw [padTo_len]; omega)]
    rfl
  · rw [if_neg h, if_neg (fun e => h e.symm), ← List.getD_eq_getElem?_getD, padTo_get]
theorem putsN_get (c row : List Int) (b s : Int) (j : Nat) : ∀ n, n ≤ row.length → (putsN c row b s n).getD j (-1) = c.getD j (-1) ∨ ((putsN c row b s n).getD j (-1) = s ∧ ∃ k ∈ row, (b + k).toNat = j)
  | 0, _ => .inl rfl
  | n + 1, h => by
    rw [putsN_succ (by omega), putAt_get]
    by_cases hj : j = (b + row.getD n 0).toNat
    · rw [if_pos hj]
      exact .inr ⟨rfl, row.getD n 0, getD_mem (by omega), hj.symm⟩
    · rw [if_neg hj]
      exact putsN_get c row b s j n (by omega)
theorem nd_take {ord : List Int} {i : Nat} (hn : ord.Nodup) (h : i < ord.length) : ord.getD i 0 ∉ ord.take i := by
  have h1 : (ord.take (i + 1)).Nodup := hn.sublist (List.take_sublist _ _)
  rw [take_succ' 0 h, List.nodup_append] at h1
  exact fun hm => h1.2.2 _ hm _ (List.mem_singleton.2 rfl) rfl
/-- Where a cell is taken, it is by a row that was laid there. -/
theorem laid_inv {rows : List (List Int)} {ord : List Int} (hn : ord.Nodup) (hlt : ∀ x ∈ ord, 0 ≤ x ∧ x < rows.length) (hk : ∀ r ∈ rows, ∀ k ∈ r, 0 ≤ k) : ∀ i, i ≤ ord.length → ∀ j, 0 ≤ (stN rows ord i).2.getD j (-1) →
    (stN rows ord i).2.getD j (-1) ∈ ord.take i ∧ ∃ k ∈ rows.getD ((stN rows ord i).2.getD j (-1)).toNat [], (stN rows ord i).1.getD ((stN rows ord i).2.getD j (-1)).toNat 0 + k = j
  | 0, _, j, h => by simp [stN] at h
  | i + 1, hi, j, h => by
    have hS := hlt _ (getD_mem (z := 0) (show i < ord.length by omega))
    have hbl := stN_len rows ord i
    rw [stN_succ (by omega) rfl] at h ⊢
    rw [take_succ' 0 (by omega)]
    dsimp only at h ⊢
    rcases putsN_get (stN rows ord i).2 (rows.getD (ord.getD i 0).toNat []) (firstFree (stN rows ord i).2 (rows.getD (ord.getD i 0).toNat [])) (ord.getD i 0) j _ (Nat.le_refl _) with h1 | ⟨h1, k, hkm, hkj⟩
    · rw [h1] at h ⊢
      obtain ⟨h2, h3⟩ := laid_inv hn hlt hk i (by omega) j h
      refine ⟨List.mem_append_left _ h2, ?_⟩
      have hne : (ord.getD i 0).toNat ≠ ((stN rows ord i).2.getD j (-1)).toNat := fun e => nd_take (i := i) hn (by omega) (by
        have : ord.getD i 0 = (stN rows ord i).2.getD j (-1) := by omega
        rw [this]
        exact h2)
      rw [List.getD_eq_getElem?_getD (l := List.set _ _ _), List.getElem?_set_ne hne, ← List.getD_eq_getElem?_getD]
      exact h3
    · rw [h1]
      refine ⟨List.mem_append_right _ (List.mem_singleton.2 rfl), k, hkm, ?_⟩
      have hk0 := hk _ (getD_mem (z := []) (show (ord.getD i 0).toNat < rows.length by omega)) k hkm
      rw [List.getD_eq_getElem?_getD (l := List.set _ _ _), List.getElem?_set_self (by omega)]
      show (firstFree (stN rows ord i).2 (rows.getD (ord.getD i 0).toNat []) : Int) + k = j
      omega
theorem laid_at {rows : List (List Int)} {ord : List Int} {least : Int} (hn : ord.Nodup) (hlt : ∀ x ∈ ord, 0 ≤ x ∧ x < rows.length) (hk : ∀ r ∈ rows, ∀ k ∈ r, 0 ≤ k) {j : Nat} (h : 0 ≤ (laidF rows ord least).2.getD j (-1)) :
    (laidF rows ord least).2.getD j (-1) < rows.length ∧ ∃ k ∈ rows.getD ((laidF rows ord least).2.getD j (-1)).toNat [], (laidF rows ord least).1.getD ((laidF rows ord least).2.getD j (-1)).toNat 0 + k = j := by
  unfold laidF at *
  dsimp only at h ⊢
  rw [padTo_get] at h ⊢
  obtain ⟨h1, h2⟩ := laid_inv hn hlt hk _ (Nat.le_refl _) j h
  exact ⟨(hlt _ (List.mem_of_mem_take h1)).2, h2⟩
theorem putsN_len {c row : List Int} {b M : Nat} {s : Int} (hM : ∀ k ∈ row, 0 ≤ k ∧ k < M) (hb : b ≤ c.length) : ∀ j, j ≤ row.length → (putsN c row b s j).length ≤ c.length + M
  | 0, _ => Nat.le_add_right _ _
  | j + 1, h => by
    have h1 := putsN_len (s := s) hM hb j (by omega)
    have h2 := hM _ (getD_mem (z := 0) (show j < row.length by omega))
    rw [putsN_succ (by omega), putAt_len]
    omega
theorem stN_chk {rows : List (List Int)} {ord : List Int} {M : Nat} (hlt : ∀ x ∈ ord, 0 ≤ x ∧ x < rows.length) (hM : ∀ r ∈ rows, ∀ k ∈ r, 0 ≤ k ∧ k < M) : ∀ i, i ≤ ord.length → (stN rows ord i).2.length ≤ i * M
  | 0, _ => Nat.zero_le _
  | i + 1, h => by
    have h1 := stN_chk hlt hM i (by omega)
    have hS := hlt _ (getD_mem (z := 0) (show i < ord.length by omega))
    rw [stN_succ (by omega) rfl]
    dsimp only
    have h2 := putsN_len (s := ord.getD i 0) (hM _ (getD_mem (z := []) (show (ord.getD i 0).toNat < rows.length by omega))) (firstFree_le (stN rows ord i).2 (rows.getD (ord.getD i 0).toNat [])) _ (Nat.le_refl _)
    rw [Nat.succ_mul]
    omega
theorem laidF_len {rows : List (List Int)} {ord : List Int} {M : Nat} {least : Int} (hlt : ∀ x ∈ ord, 0 ≤ x ∧ x < rows.length) (hol : ord.length = rows.length) (hM : ∀ r ∈ rows, ∀ k ∈ r, 0 ≤ k ∧ k < M) : (laidF rows ord least).2.length ≤ max (rows.length * M) least.toNat := by
  have h := stN_chk hlt hM _ (Nat.le_refl _)
  rw [hol] at h
  show (padTo (stN rows ord ord.length).2 least.toNat).length ≤ _
  rw [padTo_len, hol]
  omega
/-- A packed row's cells. -/
def cellsUpto {α : Type} (z : α) (check base : List Int) (rows : List (List α)) (j : Nat) : List α := ((List.range j).map fun i => if 0 ≤ check.getD i (-1) then (rows.getD (check.getD i (-1)).toNat []).getD ((i : Int) - base.getD (check.getD i (-1)).toNat 0).toNat z else z) ++ List.replicate (check.length - j) z
theorem cellsUpto_len {α : Type} {z : α} {check base : List Int} {rows : List (List α)} {j : Nat} (h : j ≤ check.length) : (cellsUpto z check base rows j).length = check.length := by
  simp only [cellsUpto, List.length_append, List.length_map, List.length_range, List.length_replicate]; omega
theorem cellsUpto_next {α : Type} {z : α} {check base : List Int} {rows : List (List α)} {j : Nat} (h : j < check.length) : cellsUpto z check base rows (j + 1) = (cellsUpto z check base rows j).set j (if 0 ≤ check.getD j (-1) then (rows.getD (check.getD j (-1)).toNat []).getD ((j : Int) - base.getD (check.getD j (-1)).toNat 0).toNat z else z) := by
  unfold cellsUpto
  rw [List.set_append_right _ _ (by simp), List.length_map, List.length_range, Nat.sub_self, show check.length - j = (check.length - (j + 1)) + 1 by omega, List.replicate_succ, List.set_cons_zero, List.range_succ, List.map_append, List.append_assoc]
  rfl
theorem cellsUpto_skip {α : Type} {z : α} {check base : List Int} {rows : List (List α)} {j : Nat} (h : j < check.length) (hn : ¬ 0 ≤ check.getD j (-1)) : cellsUpto z check base rows (j + 1) = cellsUpto z check base rows j := by
  unfold cellsUpto
  rw [show check.length - j = (check.length - (j + 1)) + 1 by omega, List.replicate_succ, List.range_succ, List.map_append, List.append_assoc]
  congr 1
  simp only [List.map_cons, List.map_nil, if_neg hn]
  rfl
/-- The packed table. -/
def packF (t : Tb) (k r : Int) (om og : List Int) : Pk :=
  let a := laidF (t.mv.map pkRow) om k
  let g := laidF (t.go.map goRow) og r
  ⟨k, r, t.mv.map usualF, a.1, a.2, cellsUpto mv0 a.2 a.1 t.mv a.2.length, g.1, g.2, cellsUpto 0 g.2 g.1 t.go g.2.length⟩
def pk0 : Pk := ⟨0, 0, [], [], [], [], [], [], []⟩
/-- A packed table of the call's own. -/
def OwnP (a : PkA) (p : Pk) : List Ch := [Row fMv 48 (.slice a.d p.dflt.length a.kd) p.dflt, Row (fInt .i64) 3 (.slice a.b p.base.length a.kb) p.base, Row (fInt .i64) 3 (.slice a.c p.check.length a.kc) p.check, Row fMv 48 (.slice a.e p.cell.length a.ke) p.cell, Row (fInt .i64) 3 (.slice a.gb p.gbase.length a.kgb) p.gbase, Row (fInt .i64) 3 (.slice a.gc p.gcheck.length a.kgc) p.gcheck, Row (fInt .i64) 3 (.slice a.ge p.gcell.length a.kge) p.gcell]
noncomputable def pkAns (t : Tb) (k r p : Int) (om og : List Int) : Pk := if checkF t k r p = 0 then packF t k r om og else pk0
theorem checkF_zero {t : Tb} {k r p : Int} (h : checkF t k r p = 0) : ¬ (k < 2 ∨ r < 0 ∨ p < 0) ∧ TGood t k r p := by
  unfold checkF at h
  split at h
  · omega
  · rename_i h1
    split at h
    · rename_i h2
      exact ⟨of_ndec (by simpa using h1), of_dec h2⟩
    · omega
theorem getD_irrel {α : Type} {xs : List α} {i : Nat} (h : i < xs.length) (a b : α) : xs.getD i a = xs.getD i b := by
  rw [List.getD_eq_getElem?_getD, List.getD_eq_getElem?_getD, List.getElem?_eq_getElem h]
  rfl
theorem getD_map' {α β : Type} {xs : List α} {i : Nat} (g : α → β) (z : α) (z' : β) (h : i < xs.length) : (xs.map g).getD i z' = g (xs.getD i z) := by
  rw [List.getD_eq_getElem?_getD, List.getD_eq_getElem?_getD, List.getElem?_map, List.getElem?_eq_getElem h]
  rfl
theorem mem_at {α : Type} {xs : List α} {x : α} (z : α) (h : x ∈ xs) : ∃ j, j < xs.length ∧ xs.getD j z = x := by
  obtain ⟨j, hj, he⟩ := List.mem_iff_getElem.1 h
  exact ⟨j, hj, by rw [List.getD_eq_getElem?_getD, List.getElem?_eq_getElem hj]; exact he⟩
theorem pm_ok {t : Tb} {k r p : Int} (h : TGood t k r p) : ∀ x ∈ t.mv.map pkRow, (∀ y ∈ x, 0 ≤ y ∧ y < k.toNat) ∧ x.length ≤ k.toNat := fun x hx => by
  obtain ⟨row, hr, rfl⟩ := List.mem_map.1 hx
  obtain ⟨j, hj, rfl⟩ := mem_at [] hr
  have := (h.2.2.2 j hj).1
  exact ⟨fun y hy => by have := pkUpto_mem hy; omega, by have := pkUpto_len (keepM (t.mv.getD j [])) (t.mv.getD j []).length; unfold pkRow; omega⟩
theorem gm_ok {t : Tb} {k r p : Int} (h : TGood t k r p) : ∀ x ∈ t.go.map goRow, (∀ y ∈ x, 0 ≤ y ∧ y < r.toNat) ∧ x.length ≤ r.toNat := fun x hx => by
  obtain ⟨row, hr, rfl⟩ := List.mem_map.1 hx
  obtain ⟨j, hj, rfl⟩ := mem_at [] hr
  have := (h.2.2.2 j (by have := h.2.2.1; omega)).2.1
  exact ⟨fun y hy => by have := pkUpto_mem hy; omega, by have := pkUpto_len (keepG (t.go.getD j [])) (t.go.getD j []).length; unfold goRow; omega⟩
theorem cellsUpto_zero {α : Type} (z : α) (check base : List Int) (rows : List (List α)) : cellsUpto z check base rows 0 = List.replicate check.length z := rfl
theorem Holds.rrR {α : Type} {f : Fk α} {W0 w : World} {L : List Ch} {e e2 n c : Nat} {A : Option Addr} {xss : List (List α)} (H : Holds W0 L w) (U : Upd L (RR f e e2 (.slice A n c) xss) (RR f e e2 (.slice A n c) xss) L) : Rd f.kn.sl w A xss := by
  obtain ⟨A', c', h, _, _, _, hr⟩ := H.rr U
  injection h with h1 h2 h3
  subst h1
  exact hr
/-- Where a taken cell's row and column are. -/
theorem laid_cell {rows : List (List Int)} {ord : List Int} {least : Int} {α : Type} {src : List (List α)} {p : List α → Nat → Bool} {P : Program} (so : SortOk P rows ord) (hr : rows = src.map fun x => pkUpto (p x) x.length) {j : Nat} (hj : j < (laidF rows ord least).2.length) (h : 0 ≤ (laidF rows ord least).2.getD j 0) :
    (laidF rows ord least).2.getD j 0 < src.length ∧ 0 ≤ (j : Int) - (laidF rows ord least).1.getD ((laidF rows ord least).2.getD j 0).toNat 0 ∧ (j : Int) - (laidF rows ord least).1.getD ((laidF rows ord least).2.getD j 0).toNat 0 < (src.getD ((laidF rows ord least).2.getD j 0).toNat []).length := by
  rw [getD_irrel hj 0 (-1)] at h ⊢
  obtain ⟨h1, k, hk, hb⟩ := laid_at so.nd so.lt (fun x hx y hy => by
    subst hr
    obtain ⟨row, _, rfl⟩ := List.mem_map.1 hx
    exact (pkUpto_mem hy).1) h
  have hl : rows.length = src.length := by rw [hr, List.length_map]
  have hlt : ((laidF rows ord least).2.getD j (-1)).toNat < src.length := by omega
  have e : rows.getD ((laidF rows ord least).2.getD j (-1)).toNat [] = pkUpto (p (src.getD ((laidF rows ord least).2.getD j (-1)).toNat [])) (src.getD ((laidF rows ord least).2.getD j (-1)).toNat []).length := by
    generalize ((laidF rows ord least).2.getD j (-1)).toNat = q at hlt ⊢
    rw [hr, getD_map' _ [] [] hlt]
  rw [e] at hk
  have := pkUpto_mem hk
  omega
theorem laidF_len1 (rows : List (List Int)) (ord : List Int) (least : Int) : (laidF rows ord least).1.length = rows.length := stN_len rows ord ord.length
end Go.Proofs.YtkpehkadammppaaFx

/-! Is a table sound for a grammar? -/
namespace Go.Proofs.Ytkpehkadammppaa.PSound
open Go Go.RowKit Go.Proofs.YtkpehkadammppaaFx Go.Proofs.Ytkpehkadammppaa.SoundW Go.Proofs.Ytkpehkadammppaa.EdgesW Go.Proofs.Ytkpehkadammppaa.GramW Go.Proofs.Ytkpehkadammppaa.Chk
theorem agg25 : Agg Try.prog 25 2 := agg_of Try.underlying25 (by kernel_rfl)
theorem agg53 : Agg Try.prog 53 5 := agg_of Try.underlying53 (by kernel_rfl)
theorem en12 : Enters Try.prog 12 := enters Try.func12 (by kernel_rfl) rfl
theorem en43 : Enters Try.prog 43 := enters Try.func43 (by kernel_rfl) rfl
theorem en44 : Enters Try.prog 44 := enters Try.func44 (by kernel_rfl) rfl
theorem en45 : Enters Try.prog 45 := enters Try.func45 (by kernel_rfl) rfl
theorem fa25_0 : FieldAt Try.prog 25 0 0 := field_at (sz := 0) Try.underlying25 rfl (by kernel_rfl) rfl
theorem fa53_0 : FieldAt Try.prog 53 0 0 := field_at (sz := 0) Try.underlying53 rfl (by kernel_rfl) rfl
theorem fa53_2 : FieldAt Try.prog 53 2 2 := field_at (sz := 0) Try.underlying53 rfl (by kernel_rfl) rfl
theorem fa53_3 : FieldAt Try.prog 53 3 3 := field_at (sz := 0) Try.underlying53 rfl (by kernel_rfl) rfl
theorem one22 : One Try.prog 22 := one_of Try.underlying22 rfl (by kernel_rfl)
theorem one4 : One Try.prog 4 := one_of Try.underlying4 rfl (by kernel_rfl)
theorem one49 : One Try.prog 49 := one_of Try.underlying49 rfl (by kernel_rfl)
theorem one51 : One Try.prog 51 := one_of Try.underlying51 rfl (by kernel_rfl)
theorem sz4 : ∀ W, (sizeOf 4).run Try.prog W = .ok 1 W := size_of (by kernel_rfl)

theorem checkG_0 {g : Pl} (h : checkG g = 0) : GOk g := Classical.byContradiction fun hn => by rw [checkG_f hn] at h; simp at h
theorem checkG_n {g : Pl} (h : ¬ checkG g = 0) : ¬ GOk g := fun hg => h (checkG_t hg)

set_option maxHeartbeats 3200000 in
set_option maxRecDepth 100000 in
theorem psound_calls {g : Pl} {a : PlA} {t : Tb} {A B : Option Addr} {ca cb : Nat} {w : World} (hr : g.rd w a) (hg : g.ok) (hx : t.rd w A B) (hk : t.ok) :
    Calls Try.prog 19 #[.agg #[.slice a.k g.kinds.length a.ck, .slice a.p g.precs.length a.cp, .slice a.r g.rules.length a.cr, .slice a.q g.prods.length a.cq, .int .i64 g.start], .agg #[.slice A t.mv.length ca, .slice B t.go.length cb]] w fun e w' => ∃ v, e = .returned v ∧ ∃ x y : Int, v = .tuple #[.int .i64 x, .int .i64 y] ∧ SRes g t x y ∧ Holds w [] w' := by
  refine calls_of Try.func19 rfl Try.ntmps19 rfl ?_
  have H := Holds.start w
  refine wc_seq ?_
  refine wc_region ?_
  refine wl_box (cs := [_, _, _, _, _]) H rfl rfl rfl ?_
  intro b2 w1 hb2 H2
  refine wl_box (cs := [_, _]) H2 rfl rfl rfl ?_
  intro b3 w3 hb3 H4
  refine wl_v rfl rfl rfl (v_assign rfl) ?_
  refine wl_v rfl rfl rfl (v_assign rfl) ?_
  refine wl_nil ?_
  refine wc_seq ?_
  refine wc_seq ?_
  refine wc_region ?_
  refine wl_v rfl rfl rfl (v_loadN agg53 rfl rfl (H4.ats (by repeat constructor))) ?_
  refine wl_call en43 rfl rfl (gcheck_calls (hr.below H4.old) hg) ?_
  rintro _ w5 ⟨rfl, Hc⟩
  have H6 := H4.call0 Hc
  refine wl_v rfl rfl rfl (v_neq rfl rfl) ?_
  refine wl_nil ?_
  refine wc_cond rfl (fun c0 => ?_) (fun c0 => ?_)
  ·have c0p := of_nd_t c0
   have hG := checkG_n c0p
   refine wc_seq ?_
   refine wc_region ?_
   refine wl_v rfl rfl rfl (v_assign rfl) ?_
   refine wl_v rfl rfl rfl (v_assign rfl) ?_
   refine wl_nil ?_
   refine wc_ret ?_
   first
     | exact ⟨_, res2 rfl rfl rfl, _, _, rfl, .inl ⟨hG, rfl, rfl⟩, H6.pm (Pm.nil _)⟩
     | exact ⟨_, res2 rfl rfl rfl, _, _, rfl, .inr (.inl ⟨hG, c1p, rfl, rfl⟩), H6.pm (Pm.nil _)⟩
     | exact ⟨_, res2 rfl rfl rfl, _, _, rfl, .inr (.inr ⟨hG, c1p, .inl ⟨i, rfl, rfl, by omega, ⟨(hE.hm i (by omega)).1 g40, hbad⟩, ha⟩⟩), H6.pm (Pm.nil _)⟩
     | exact ⟨_, res2 rfl rfl rfl, _, _, rfl, .inr (.inr ⟨hG, c1p, .inr ⟨rfl, rfl, fun s hs => ha s (by omega)⟩⟩), H6.pm (Pm.nil _)⟩
  ·have c0p := of_nd_f c0
   have hG := checkG_0 c0p
   refine wc_skip ?_
   refine wc_seq ?_
   refine wc_seq ?_
   refine wc_region ?_
   refine wl_v rfl rfl rfl (v_loadN agg25 rfl rfl (H6.ats (by repeat constructor))) ?_
   refine wl_v rfl rfl rfl (v_fb (o2 := 0) fa53_0 rfl rfl) ?_
   refine wl_v rfl rfl rfl (v_load one49 rfl (H6.at (by repeat constructor) rfl)) ?_
   refine wl_v rfl rfl rfl (v_len Try.underlying49 rfl) ?_
   refine wl_v rfl rfl rfl (v_fb (o2 := 2) fa53_2 rfl rfl) ?_
   refine wl_v rfl rfl rfl (v_load one49 rfl (H6.at (by repeat constructor) rfl)) ?_
   refine wl_v rfl rfl rfl (v_len Try.underlying49 rfl) ?_
   refine wl_v rfl rfl rfl (v_fb (o2 := 3) fa53_3 rfl rfl) ?_
   refine wl_v rfl rfl rfl (v_load one51 rfl (H6.at (by repeat constructor) rfl)) ?_
   refine wl_v rfl rfl rfl (v_len Try.underlying51 rfl) ?_
   refine wl_call en12 rfl rfl (check_calls (hx.below H6.old) hk) ?_
   rintro _ w7 ⟨rfl, Hc⟩
   have H8 := H6.call0 Hc
   refine wl_v rfl rfl rfl (v_neq rfl rfl) ?_
   refine wl_nil ?_
   refine wc_cond rfl (fun c1 => ?_) (fun c1 => ?_)
   ·have c1p := of_nd_t c1
    refine wc_seq ?_
    refine wc_region ?_
    refine wl_v rfl rfl rfl (v_assign rfl) ?_
    refine wl_v rfl rfl rfl (v_assign rfl) ?_
    refine wl_nil ?_
    refine wc_ret ?_
    first
      | exact ⟨_, res2 rfl rfl rfl, _, _, rfl, .inl ⟨hG, rfl, rfl⟩, H8.pm (Pm.nil _)⟩
      | exact ⟨_, res2 rfl rfl rfl, _, _, rfl, .inr (.inl ⟨hG, c1p, rfl, rfl⟩), H8.pm (Pm.nil _)⟩
      | exact ⟨_, res2 rfl rfl rfl, _, _, rfl, .inr (.inr ⟨hG, c1p, .inl ⟨i, rfl, rfl, by omega, ⟨(hE.hm i (by omega)).1 g40, hbad⟩, ha⟩⟩), H8.pm (Pm.nil _)⟩
      | exact ⟨_, res2 rfl rfl rfl, _, _, rfl, .inr (.inr ⟨hG, c1p, .inr ⟨rfl, rfl, fun s hs => ha s (by omega)⟩⟩), H8.pm (Pm.nil _)⟩
   ·have c1p := of_nd_f c1
    have hf : Fit2 g t := checkF_good c1p
    have hn1 := hf.1
    have hn2 := hf.2.1
    refine wc_skip ?_
    refine wc_seq ?_
    refine wc_region ?_
    refine wl_v rfl rfl rfl (v_loadN agg53 rfl rfl (H8.ats (by repeat constructor))) ?_
    refine wl_v rfl rfl rfl (v_loadN agg25 rfl rfl (H8.ats (by repeat constructor))) ?_
    refine wl_call en44 rfl rfl (edges_calls (a := a) (hx.below H8.old) hf hG.1.1.1.2.1 hG.1.2.2.2.1.2) ?_
    rintro _ w9 ⟨Ai, Am, xss, met, rfl, hE, Hc⟩
    have H10 := H8.call Hc
    refine wl_v rfl rfl rfl (v_move rfl) ?_
    refine wl_v rfl rfl rfl (v_extract rfl rfl) ?_
    refine wl_v rfl rfl rfl (v_extract rfl rfl) ?_
    refine wl_v rfl rfl rfl (v_assign rfl) ?_
    refine wl_v rfl rfl rfl (v_assign rfl) ?_
    refine wl_nil ?_
    refine wc_seq ?_
    refine wc_seq ?_
    refine wc_region ?_
    refine wl_v rfl rfl rfl (v_fb (o2 := 0) fa25_0 rfl rfl) ?_
    refine wl_v rfl rfl rfl (v_load one22 rfl (H10.at (by repeat constructor) rfl)) ?_
    refine wl_v rfl rfl rfl (v_len Try.underlying22 rfl) ?_
    refine wl_v rfl rfl rfl (v_move rfl) ?_
    refine wl_nil ?_
    refine wc_block ?_
    refine wc_loop (σ := Nat) (fun s' => [(2, .pointer (some ⟨b2, 0, none⟩)), (3, .pointer (some ⟨b3, 0, none⟩)), (6, .slice Ai t.mv.length t.mv.length), (7, .slice Am t.mv.length t.mv.length), (31, .slice A t.mv.length ca), (32, .int .i64 t.mv.length), (33, .int .i64 s')]) (fun s' W => (s' ≤ t.mv.length ∧ ∀ s, s < s' → Rch g t s → StOk g t s) ∧ Holds w [RR fMv 132 134 (.slice Ai t.mv.length t.mv.length) xss, Row fBool 4 (.slice Am t.mv.length t.mv.length) met, Blk b3 25 [.slice A t.mv.length ca, .slice B t.go.length cb], Blk b2 53 [.slice a.k g.kinds.length a.ck, .slice a.p g.precs.length a.cp, .slice a.r g.rules.length a.cr, .slice a.q g.prods.length a.cq, .int .i64 g.start]] W) (fun s' => t.mv.length - s') 0 (sc rfl (sc rfl (sc rfl (sc rfl (sc rfl (sc rfl (sc rfl (sn _)))))))) ⟨⟨Nat.zero_le _, upto_zero⟩, H10.pm (by repeat constructor)⟩ ?_
    rintro i W0 ⟨⟨hi, ha⟩, H⟩
    refine wc_seq ?_
    refine wc_region ?_
    refine wl_v rfl rfl rfl (v_lss rfl rfl) ?_
    refine wl_nil ?_
    refine wc_seq ?_
    refine wc_cond rfl (fun c2 => ?_) (fun c2 => ?_)
    ·have c2p := of_decide_eq_true c2
     refine wc_skip ?_
     refine wc_seq ?_
     refine wc_block ?_
     refine wc_seq ?_
     refine wc_region ?_
     refine wl_v rfl rfl rfl (v_move rfl) ?_
     refine wl_v rfl rfl rfl (v_assign rfl) ?_
     refine wl_nil ?_
     refine wc_seq ?_
     refine wc_region ?_
     refine wl_v rfl rfl rfl (v_move rfl) ?_
     refine wl_v rfl rfl rfl (v_move rfl) ?_
     refine wl_v rfl rfl rfl (v_idx Try.underlying97 sz4 (fun h_ => (H.rrd (f := fBool) (e := 4) (A := Am) (xs := met) (by repeat constructor)).ad (by rw [hE.lm]; exact h_)) rfl rfl (by omega) (by omega)) ?_
     refine wl_v rfl rfl rfl (v_load one4 rfl ((H.rrd (f := fBool) (e := 4) (A := Am) (xs := met) (by repeat constructor)).at1bN (i := i) (by rw [hE.lm]; omega))) ?_
     refine wl_v rfl rfl rfl (v_move rfl) ?_
     refine wl_guard rfl rfl rfl (fun g40 => ?_) (fun g40 => ?_)
     ·refine wl_v rfl rfl rfl (v_loadN agg53 rfl rfl (H.ats (by repeat constructor))) ?_
      refine wl_on' rfl rfl g40 ?_
      refine wl_v rfl rfl rfl (v_loadN agg25 rfl rfl (H.ats (by repeat constructor))) ?_
      refine wl_on' rfl rfl g40 ?_
      refine wl_v rfl rfl rfl (v_move rfl) ?_
      refine wl_on' rfl rfl g40 ?_
      refine wl_v rfl rfl rfl (v_move rfl) ?_
      refine wl_on' rfl rfl g40 ?_
      refine wl_call en45 rfl rfl (by (have h_ := sound1_calls (ci := t.mv.length) (ca := ca) (cb := cb) (a := a) (s := i) (met := met) (hr.below H.old) hg (hx.below H.old) hf hG hE (H.rrR (f := fMv) (e := 132) (e2 := 134) (A := Ai) (xss := xss) (by repeat constructor)) (by omega); rw [hE.lx] at h_; exact h_)) ?_
      rintro _ w11 ⟨rfl, Hc⟩
      have H12 := H.call0 Hc
      refine wl_on' rfl rfl g40 ?_
      refine wl_v rfl rfl rfl (v_not rfl) ?_
      refine wl_v rfl rfl rfl (v_pick_t rfl g40 rfl) ?_
      refine wl_nil ?_
      refine wc_cond rfl (fun c3 => ?_) (fun c3 => ?_)
      ·have c3p := of_n_t c3
       have hbad := of_ndec (of_n_t c3)
       refine wc_seq ?_
       refine wc_region ?_
       refine wl_v rfl rfl rfl (v_move rfl) ?_
       refine wl_v rfl rfl rfl (v_assign rfl) ?_
       refine wl_v rfl rfl rfl (v_assign rfl) ?_
       refine wl_nil ?_
       refine wc_ret ?_
       first
         | exact ⟨_, res2 rfl rfl rfl, _, _, rfl, .inl ⟨hG, rfl, rfl⟩, H12.pm (Pm.nil _)⟩
         | exact ⟨_, res2 rfl rfl rfl, _, _, rfl, .inr (.inl ⟨hG, c1p, rfl, rfl⟩), H12.pm (Pm.nil _)⟩
         | exact ⟨_, res2 rfl rfl rfl, _, _, rfl, .inr (.inr ⟨hG, c1p, .inl ⟨i, rfl, rfl, by omega, ⟨(hE.hm i (by omega)).1 g40, hbad⟩, ha⟩⟩), H12.pm (Pm.nil _)⟩
         | exact ⟨_, res2 rfl rfl rfl, _, _, rfl, .inr (.inr ⟨hG, c1p, .inr ⟨rfl, rfl, fun s hs => ha s (by omega)⟩⟩), H12.pm (Pm.nil _)⟩
      ·have c3p := of_n_f c3
       refine wc_skip ?_
       refine wc_region ?_
       refine wl_v rfl rfl rfl (v_addi rfl rfl (by omega)) ?_
       refine wl_v rfl rfl rfl (v_move rfl) ?_
       refine wl_nil ?_
       first
         | exact ⟨i + 1, (sc rfl (sc rfl (sc rfl (sc rfl (sc rfl (sc rfl (sc rfl (sn _)))))))), ⟨⟨by omega, upto_succ ha fun _ => of_dec (of_n_f c3)⟩, H12.pm (by repeat constructor)⟩, by omega⟩
         | exact ⟨i + 1, (sc rfl (sc rfl (sc rfl (sc rfl (sc rfl (sc rfl (sc rfl (sn _)))))))), ⟨⟨by omega, upto_succ ha fun h_ => absurd (((hE.hm i (by omega)).2 h_).symm.trans g40) Bool.noConfusion⟩, H12.pm (by repeat constructor)⟩, by omega⟩
     ·refine wl_off rfl rfl g40 rfl ?_
      refine wl_off rfl rfl g40 rfl ?_
      refine wl_off rfl rfl g40 rfl ?_
      refine wl_off rfl rfl g40 rfl ?_
      refine wl_off rfl rfl g40 rfl ?_
      refine wl_v rfl rfl rfl (v_pick_f rfl g40 rfl) ?_
      refine wl_nil ?_
      refine wc_cond_f rfl ?_
      refine wc_skip ?_
      refine wc_region ?_
      refine wl_v rfl rfl rfl (v_addi rfl rfl (by omega)) ?_
      refine wl_v rfl rfl rfl (v_move rfl) ?_
      refine wl_nil ?_
      first
        | exact ⟨i + 1, (sc rfl (sc rfl (sc rfl (sc rfl (sc rfl (sc rfl (sc rfl (sn _)))))))), ⟨⟨by omega, upto_succ ha fun _ => of_dec (of_n_f c3)⟩, H.pm (by repeat constructor)⟩, by omega⟩
        | exact ⟨i + 1, (sc rfl (sc rfl (sc rfl (sc rfl (sc rfl (sc rfl (sc rfl (sn _)))))))), ⟨⟨by omega, upto_succ ha fun h_ => absurd (((hE.hm i (by omega)).2 h_).symm.trans g40) Bool.noConfusion⟩, H.pm (by repeat constructor)⟩, by omega⟩
    ·have c2p := of_decide_eq_false c2
     refine wc_exit ?_
     refine wc_seq ?_
     refine wc_region ?_
     refine wl_v rfl rfl rfl (v_assign rfl) ?_
     refine wl_v rfl rfl rfl (v_assign rfl) ?_
     refine wl_nil ?_
     refine wc_ret ?_
     first
       | exact ⟨_, res2 rfl rfl rfl, _, _, rfl, .inl ⟨hG, rfl, rfl⟩, H.pm (Pm.nil _)⟩
       | exact ⟨_, res2 rfl rfl rfl, _, _, rfl, .inr (.inl ⟨hG, c1p, rfl, rfl⟩), H.pm (Pm.nil _)⟩
       | exact ⟨_, res2 rfl rfl rfl, _, _, rfl, .inr (.inr ⟨hG, c1p, .inl ⟨i, rfl, rfl, by omega, ⟨(hE.hm i (by omega)).1 g40, hbad⟩, ha⟩⟩), H.pm (Pm.nil _)⟩
       | exact ⟨_, res2 rfl rfl rfl, _, _, rfl, .inr (.inr ⟨hG, c1p, .inr ⟨rfl, rfl, fun s hs => ha s (by omega)⟩⟩), H.pm (Pm.nil _)⟩
end Go.Proofs.Ytkpehkadammppaa.PSound
