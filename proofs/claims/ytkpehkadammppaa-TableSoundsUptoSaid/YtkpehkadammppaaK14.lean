/- What a packed table says. A table of one state has a default. The law on sound tables. -/
import Derived.Test.YtkpehkadammppaaProg
import Derived.Test.YtkpehkadammppaaK08
import Derived.Test.YtkpehkadammppaaK11
import Derived.Test.YtkpehkadammppaaK12
import Derived.Test.YtkpehkadammppaaK13
set_option linter.unusedVariables false
set_option linter.unusedSimpArgs false
/-! What a packed table says. -/
namespace Go.Proofs.Ytkpehkadammppaa.Look
open Go Go.RowKit Go.Proofs.YtkpehkadammppaaFx 
theorem agg48 : Agg Try.prog 48 2 := agg_of Try.underlying48 (by kernel_rfl)
theorem ba48 : BuildAt Try.prog 48 [.int .i64 0, .int .i64 0] [(0, 1), (1, 1)] := build_at Try.underlying48 (by kernel_rfl) (by kernel_rfl)
theorem en50 : Enters Try.prog 50 := enters Try.func50 (by kernel_rfl) rfl
theorem en51 : Enters Try.prog 51 := enters Try.func51 (by kernel_rfl) rfl
theorem fa41_0 : FieldAt Try.prog 41 0 0 := field_at (sz := 0) Try.underlying41 rfl (by kernel_rfl) rfl
theorem fa41_1 : FieldAt Try.prog 41 1 1 := field_at (sz := 0) Try.underlying41 rfl (by kernel_rfl) rfl
theorem fa41_2 : FieldAt Try.prog 41 2 2 := field_at (sz := 0) Try.underlying41 rfl (by kernel_rfl) rfl
theorem fa41_3 : FieldAt Try.prog 41 3 3 := field_at (sz := 0) Try.underlying41 rfl (by kernel_rfl) rfl
theorem fa41_4 : FieldAt Try.prog 41 4 4 := field_at (sz := 0) Try.underlying41 rfl (by kernel_rfl) rfl
theorem fa41_5 : FieldAt Try.prog 41 5 5 := field_at (sz := 0) Try.underlying41 rfl (by kernel_rfl) rfl
theorem fa41_6 : FieldAt Try.prog 41 6 6 := field_at (sz := 0) Try.underlying41 rfl (by kernel_rfl) rfl
theorem fa41_7 : FieldAt Try.prog 41 7 7 := field_at (sz := 0) Try.underlying41 rfl (by kernel_rfl) rfl
theorem fa41_8 : FieldAt Try.prog 41 8 8 := field_at (sz := 0) Try.underlying41 rfl (by kernel_rfl) rfl
theorem one3 : One Try.prog 3 := one_of Try.underlying3 rfl (by kernel_rfl)
theorem one38 : One Try.prog 38 := one_of Try.underlying38 rfl (by kernel_rfl)
theorem one39 : One Try.prog 39 := one_of Try.underlying39 rfl (by kernel_rfl)
theorem sz3 : ∀ W, (sizeOf 3).run Try.prog W = .ok 1 W := size_of (by kernel_rfl)
theorem sz48 : ∀ W, (sizeOf 48).run Try.prog W = .ok 2 W := size_of (by kernel_rfl)
theorem zv48 : ∀ W, (zeroValue 48).run Try.prog W = .ok (.agg #[.int .i64 0, .int .i64 0]) W := zero_of (by kernel_rfl)

set_option maxRecDepth 100000 in
theorem cell_calls {A B : Option Addr} {ca cb : Nat} {base check : List Int} {cells : Nat} {s k : Int} {w : World} (hb : Rd (kInt .i64) w A base) (hc : Rd (kInt .i64) w B check) (q1 : base.length ≤ 1099511627776) (q2 : check.length ≤ 1099511627776) (hi : ∀ x ∈ base, I64 x) (hs : 0 ≤ s) (hk : 0 ≤ k) (hk2 : k ≤ 9223372036854775807) :
    Calls Try.prog 50 #[.slice A base.length ca, .slice B check.length cb, .int .i64 cells, .int .i64 s, .int .i64 k] w fun e w' => ∃ v, e = .returned v ∧ v = .int .i64 (cellF base check cells s k) ∧ Holds w [] w' := by
  refine calls_of Try.func50 rfl Try.ntmps50 rfl ?_
  have H := Holds.start w
  refine wc_seq ?_
  refine wc_region ?_
  refine wl_v rfl rfl rfl (v_assign rfl) ?_
  refine wl_nil ?_
  refine wc_seq ?_
  refine wc_seq ?_
  refine wc_region ?_
  refine wl_v rfl rfl rfl (v_move rfl) ?_
  refine wl_v rfl rfl rfl (v_move rfl) ?_
  refine wl_v rfl rfl rfl (v_len Try.underlying39 rfl) ?_
  refine wl_v rfl rfl rfl (v_geq rfl rfl) ?_
  refine wl_v rfl rfl rfl (v_move rfl) ?_
  refine wl_guard rfl rfl rfl (fun g16 => ?_) (fun g16 => ?_)
  ·have g16p := of_decide_eq_false g16
   have hib := hi (base.getD s.toNat 0) (getD_mem (by omega))
   unfold I64 at hib
   have hw := fun h => wrap_cases (x := base.getD s.toNat 0 + k) h (by omega)
   refine wl_v rfl rfl rfl (v_move rfl) ?_
   refine wl_on' rfl rfl g16 ?_
   refine wl_v rfl rfl rfl (v_move rfl) ?_
   refine wl_on' rfl rfl g16 ?_
   refine wl_v rfl rfl rfl (v_idx Try.underlying39 sz3 hb.ad rfl rfl (by omega) (by omega)) ?_
   refine wl_on' rfl rfl g16 ?_
   refine wl_v rfl rfl rfl (v_load one3 rfl (H.cell (hb.at1 (by omega) (by omega)))) ?_
   refine wl_on' rfl rfl g16 ?_
   refine wl_v rfl rfl rfl (v_move rfl) ?_
   refine wl_on' rfl rfl g16 ?_
   refine wl_v rfl rfl rfl (v_len Try.underlying39 rfl) ?_
   refine wl_on' rfl rfl g16 ?_
   refine wl_v rfl rfl rfl (v_gtr rfl rfl) ?_
   refine wl_v rfl rfl rfl (v_pick_f rfl g16 rfl) ?_
   refine wl_v rfl rfl rfl (v_move rfl) ?_
   refine wl_guard rfl rfl rfl (fun g25 => ?_) (fun g25 => ?_)
   ·have g25p := of_decide_eq_false g25
    refine wl_v rfl rfl rfl (v_move rfl) ?_
    refine wl_on' rfl rfl g25 ?_
    refine wl_v rfl rfl rfl (v_move rfl) ?_
    refine wl_on' rfl rfl g25 ?_
    refine wl_v rfl rfl rfl (v_idx Try.underlying39 sz3 hb.ad rfl rfl (by omega) (by omega)) ?_
    refine wl_on' rfl rfl g25 ?_
    refine wl_v rfl rfl rfl (v_load one3 rfl (H.cell (hb.at1 (by omega) (by omega)))) ?_
    refine wl_on' rfl rfl g25 ?_
    refine wl_v rfl rfl rfl (v_move rfl) ?_
    refine wl_on' rfl rfl g25 ?_
    refine wl_v rfl rfl rfl (v_negi rfl (by omega)) ?_
    refine wl_on' rfl rfl g25 ?_
    refine wl_v rfl rfl rfl (v_lss rfl rfl) ?_
    refine wl_v rfl rfl rfl (v_pick_f rfl g25 rfl) ?_
    refine wl_nil ?_
    refine wc_cond rfl (fun c0 => ?_) (fun c0 => ?_)
    ·have c0p := of_decide_eq_true c0
     refine wc_seq ?_
     refine wc_region ?_
     refine wl_v rfl rfl rfl (v_assign rfl) ?_
     refine wl_nil ?_
     refine wc_ret ?_
     first
       | exact ⟨_, res1 rfl rfl, congrArg (Value.int .i64) (by rw [cellF_no (by omega)]), H⟩
       | exact ⟨_, res1 rfl rfl, congrArg (Value.int .i64) (by have e1 : IntKind.i64.wrap (base.getD s.toNat 0 + k) = base.getD s.toNat 0 + k := (by omega); have e2 : check.getD (IntKind.i64.wrap (base.getD s.toNat 0 + k)).toNat 0 = check.getD (base.getD s.toNat 0 + k).toNat 0 := congrArg (fun z : Int => check.getD z.toNat 0) e1; rw [cellF_no (by omega)]), H⟩
       | exact ⟨_, res1 rfl rfl, congrArg (Value.int .i64) (by have e1 : IntKind.i64.wrap (base.getD s.toNat 0 + k) = base.getD s.toNat 0 + k := (by omega); have e2 : check.getD (IntKind.i64.wrap (base.getD s.toNat 0 + k)).toNat 0 = check.getD (base.getD s.toNat 0 + k).toNat 0 := congrArg (fun z : Int => check.getD z.toNat 0) e1; rw [cellF_yes (by omega), e1]), H⟩
    ·have c0p := of_decide_eq_false c0
     have hw := hw (by omega)
     refine wc_skip ?_
     refine wc_seq ?_
     refine wc_region ?_
     refine wl_v rfl rfl rfl (v_move rfl) ?_
     refine wl_v rfl rfl rfl (v_move rfl) ?_
     refine wl_v rfl rfl rfl (v_idx Try.underlying39 sz3 hb.ad rfl rfl (by omega) (by omega)) ?_
     refine wl_v rfl rfl rfl (v_load one3 rfl (H.cell (hb.at1 (by omega) (by omega)))) ?_
     refine wl_v rfl rfl rfl (v_move rfl) ?_
     refine wl_v rfl rfl rfl (v_add rfl rfl) ?_
     refine wl_v rfl rfl rfl (v_assign rfl) ?_
     refine wl_nil ?_
     refine wc_seq ?_
     refine wc_seq ?_
     refine wc_region ?_
     refine wl_v rfl rfl rfl (v_move rfl) ?_
     refine wl_v rfl rfl rfl (v_lss rfl rfl) ?_
     refine wl_v rfl rfl rfl (v_move rfl) ?_
     refine wl_guard rfl rfl rfl (fun g42 => ?_) (fun g42 => ?_)
     ·have g42p := of_decide_eq_false g42
      refine wl_v rfl rfl rfl (v_move rfl) ?_
      refine wl_on' rfl rfl g42 ?_
      refine wl_v rfl rfl rfl (v_move rfl) ?_
      refine wl_on' rfl rfl g42 ?_
      refine wl_v rfl rfl rfl (v_len Try.underlying39 rfl) ?_
      refine wl_on' rfl rfl g42 ?_
      refine wl_v rfl rfl rfl (v_geq rfl rfl) ?_
      refine wl_v rfl rfl rfl (v_pick_f rfl g42 rfl) ?_
      refine wl_v rfl rfl rfl (v_move rfl) ?_
      refine wl_guard rfl rfl rfl (fun g48 => ?_) (fun g48 => ?_)
      ·have g48p := of_decide_eq_false g48
       refine wl_v rfl rfl rfl (v_move rfl) ?_
       refine wl_on' rfl rfl g48 ?_
       refine wl_v rfl rfl rfl (v_move rfl) ?_
       refine wl_on' rfl rfl g48 ?_
       refine wl_v rfl rfl rfl (v_geq rfl rfl) ?_
       refine wl_v rfl rfl rfl (v_pick_f rfl g48 rfl) ?_
       refine wl_v rfl rfl rfl (v_move rfl) ?_
       refine wl_guard rfl rfl rfl (fun g53 => ?_) (fun g53 => ?_)
       ·have g53p := of_decide_eq_false g53
        refine wl_v rfl rfl rfl (v_move rfl) ?_
        refine wl_on' rfl rfl g53 ?_
        refine wl_v rfl rfl rfl (v_move rfl) ?_
        refine wl_on' rfl rfl g53 ?_
        refine wl_v rfl rfl rfl (v_idx Try.underlying39 sz3 hc.ad rfl rfl (by omega) (by omega)) ?_
        refine wl_on' rfl rfl g53 ?_
        refine wl_v rfl rfl rfl (v_load one3 rfl (H.cell (hc.at1 (by omega) (by omega)))) ?_
        refine wl_on' rfl rfl g53 ?_
        refine wl_v rfl rfl rfl (v_move rfl) ?_
        refine wl_on' rfl rfl g53 ?_
        refine wl_v rfl rfl rfl (v_neq rfl rfl) ?_
        refine wl_v rfl rfl rfl (v_pick_f rfl g53 rfl) ?_
        refine wl_nil ?_
        refine wc_cond rfl (fun c1 => ?_) (fun c1 => ?_)
        ·have c1p := of_nd_t c1
         refine wc_seq ?_
         refine wc_region ?_
         refine wl_v rfl rfl rfl (v_assign rfl) ?_
         refine wl_nil ?_
         refine wc_ret ?_
         first
           | exact ⟨_, res1 rfl rfl, congrArg (Value.int .i64) (by rw [cellF_no (by omega)]), H⟩
           | exact ⟨_, res1 rfl rfl, congrArg (Value.int .i64) (by have e1 : IntKind.i64.wrap (base.getD s.toNat 0 + k) = base.getD s.toNat 0 + k := (by omega); have e2 : check.getD (IntKind.i64.wrap (base.getD s.toNat 0 + k)).toNat 0 = check.getD (base.getD s.toNat 0 + k).toNat 0 := congrArg (fun z : Int => check.getD z.toNat 0) e1; rw [cellF_no (by omega)]), H⟩
           | exact ⟨_, res1 rfl rfl, congrArg (Value.int .i64) (by have e1 : IntKind.i64.wrap (base.getD s.toNat 0 + k) = base.getD s.toNat 0 + k := (by omega); have e2 : check.getD (IntKind.i64.wrap (base.getD s.toNat 0 + k)).toNat 0 = check.getD (base.getD s.toNat 0 + k).toNat 0 := congrArg (fun z : Int => check.getD z.toNat 0) e1; rw [cellF_yes (by omega), e1]), H⟩
        ·have c1p := of_nd_f c1
         refine wc_skip ?_
         refine wc_seq ?_
         refine wc_region ?_
         refine wl_v rfl rfl rfl (v_move rfl) ?_
         refine wl_v rfl rfl rfl (v_assign rfl) ?_
         refine wl_nil ?_
         refine wc_ret ?_
         first
           | exact ⟨_, res1 rfl rfl, congrArg (Value.int .i64) (by rw [cellF_no (by omega)]), H⟩
           | exact ⟨_, res1 rfl rfl, congrArg (Value.int .i64) (by have e1 : IntKind.i64.wrap (base.getD s.toNat 0 + k) = base.getD s.toNat 0 + k := (by omega); have e2 : check.getD (IntKind.i64.wrap (base.getD s.toNat 0 + k)).toNat 0 = check.getD (base.getD s.toNat 0 + k).toNat 0 := congrArg (fun z : Int => check.getD z.toNat 0) e1; rw [cellF_no (by omega)]), H⟩
           | exact ⟨_, res1 rfl rfl, congrArg (Value.int .i64) (by have e1 : IntKind.i64.wrap (base.getD s.toNat 0 + k) = base.getD s.toNat 0 + k := (by omega); have e2 : check.getD (IntKind.i64.wrap (base.getD s.toNat 0 + k)).toNat 0 = check.getD (base.getD s.toNat 0 + k).toNat 0 := congrArg (fun z : Int => check.getD z.toNat 0) e1; rw [cellF_yes (by omega), e1]), H⟩
       ·have g53p := of_decide_eq_true g53
        refine wl_off rfl rfl g53 rfl ?_
        refine wl_off rfl rfl g53 rfl ?_
        refine wl_off rfl rfl g53 rfl ?_
        refine wl_off rfl rfl g53 rfl ?_
        refine wl_off rfl rfl g53 rfl ?_
        refine wl_v rfl rfl rfl (v_pick_t rfl g53 rfl) ?_
        refine wl_nil ?_
        refine wc_cond_t rfl ?_
        refine wc_seq ?_
        refine wc_region ?_
        refine wl_v rfl rfl rfl (v_assign rfl) ?_
        refine wl_nil ?_
        refine wc_ret ?_
        first
          | exact ⟨_, res1 rfl rfl, congrArg (Value.int .i64) (by rw [cellF_no (by omega)]), H⟩
          | exact ⟨_, res1 rfl rfl, congrArg (Value.int .i64) (by have e1 : IntKind.i64.wrap (base.getD s.toNat 0 + k) = base.getD s.toNat 0 + k := (by omega); have e2 : check.getD (IntKind.i64.wrap (base.getD s.toNat 0 + k)).toNat 0 = check.getD (base.getD s.toNat 0 + k).toNat 0 := congrArg (fun z : Int => check.getD z.toNat 0) e1; rw [cellF_no (by omega)]), H⟩
          | exact ⟨_, res1 rfl rfl, congrArg (Value.int .i64) (by have e1 : IntKind.i64.wrap (base.getD s.toNat 0 + k) = base.getD s.toNat 0 + k := (by omega); have e2 : check.getD (IntKind.i64.wrap (base.getD s.toNat 0 + k)).toNat 0 = check.getD (base.getD s.toNat 0 + k).toNat 0 := congrArg (fun z : Int => check.getD z.toNat 0) e1; rw [cellF_yes (by omega), e1]), H⟩
      ·have g48p := of_decide_eq_true g48
       refine wl_off rfl rfl g48 rfl ?_
       refine wl_off rfl rfl g48 rfl ?_
       refine wl_v rfl rfl rfl (v_pick_t rfl g48 rfl) ?_
       refine wl_v rfl rfl rfl (v_move rfl) ?_
       refine wl_off rfl rfl rfl rfl ?_
       refine wl_off rfl rfl rfl rfl ?_
       refine wl_off rfl rfl rfl rfl ?_
       refine wl_off rfl rfl rfl rfl ?_
       refine wl_off rfl rfl rfl rfl ?_
       refine wl_off rfl rfl rfl rfl ?_
       refine wl_v rfl rfl rfl (v_pick_t rfl rfl rfl) ?_
       refine wl_nil ?_
       refine wc_cond_t rfl ?_
       refine wc_seq ?_
       refine wc_region ?_
       refine wl_v rfl rfl rfl (v_assign rfl) ?_
       refine wl_nil ?_
       refine wc_ret ?_
       first
         | exact ⟨_, res1 rfl rfl, congrArg (Value.int .i64) (by rw [cellF_no (by omega)]), H⟩
         | exact ⟨_, res1 rfl rfl, congrArg (Value.int .i64) (by have e1 : IntKind.i64.wrap (base.getD s.toNat 0 + k) = base.getD s.toNat 0 + k := (by omega); have e2 : check.getD (IntKind.i64.wrap (base.getD s.toNat 0 + k)).toNat 0 = check.getD (base.getD s.toNat 0 + k).toNat 0 := congrArg (fun z : Int => check.getD z.toNat 0) e1; rw [cellF_no (by omega)]), H⟩
         | exact ⟨_, res1 rfl rfl, congrArg (Value.int .i64) (by have e1 : IntKind.i64.wrap (base.getD s.toNat 0 + k) = base.getD s.toNat 0 + k := (by omega); have e2 : check.getD (IntKind.i64.wrap (base.getD s.toNat 0 + k)).toNat 0 = check.getD (base.getD s.toNat 0 + k).toNat 0 := congrArg (fun z : Int => check.getD z.toNat 0) e1; rw [cellF_yes (by omega), e1]), H⟩
     ·have g42p := of_decide_eq_true g42
      refine wl_off rfl rfl g42 rfl ?_
      refine wl_off rfl rfl g42 rfl ?_
      refine wl_off rfl rfl g42 rfl ?_
      refine wl_v rfl rfl rfl (v_pick_t rfl g42 rfl) ?_
      refine wl_v rfl rfl rfl (v_move rfl) ?_
      refine wl_off rfl rfl rfl rfl ?_
      refine wl_off rfl rfl rfl rfl ?_
      refine wl_off rfl rfl rfl rfl ?_
      refine wl_v rfl rfl rfl (v_pick_t rfl rfl rfl) ?_
      refine wl_v rfl rfl rfl (v_move rfl) ?_
      refine wl_off rfl rfl rfl rfl ?_
      refine wl_off rfl rfl rfl rfl ?_
      refine wl_off rfl rfl rfl rfl ?_
      refine wl_off rfl rfl rfl rfl ?_
      refine wl_off rfl rfl rfl rfl ?_
      refine wl_off rfl rfl rfl rfl ?_
      refine wl_v rfl rfl rfl (v_pick_t rfl rfl rfl) ?_
      refine wl_nil ?_
      refine wc_cond_t rfl ?_
      refine wc_seq ?_
      refine wc_region ?_
      refine wl_v rfl rfl rfl (v_assign rfl) ?_
      refine wl_nil ?_
      refine wc_ret ?_
      first
        | exact ⟨_, res1 rfl rfl, congrArg (Value.int .i64) (by rw [cellF_no (by omega)]), H⟩
        | exact ⟨_, res1 rfl rfl, congrArg (Value.int .i64) (by have e1 : IntKind.i64.wrap (base.getD s.toNat 0 + k) = base.getD s.toNat 0 + k := (by omega); have e2 : check.getD (IntKind.i64.wrap (base.getD s.toNat 0 + k)).toNat 0 = check.getD (base.getD s.toNat 0 + k).toNat 0 := congrArg (fun z : Int => check.getD z.toNat 0) e1; rw [cellF_no (by omega)]), H⟩
        | exact ⟨_, res1 rfl rfl, congrArg (Value.int .i64) (by have e1 : IntKind.i64.wrap (base.getD s.toNat 0 + k) = base.getD s.toNat 0 + k := (by omega); have e2 : check.getD (IntKind.i64.wrap (base.getD s.toNat 0 + k)).toNat 0 = check.getD (base.getD s.toNat 0 + k).toNat 0 := congrArg (fun z : Int => check.getD z.toNat 0) e1; rw [cellF_yes (by omega), e1]), H⟩
   ·have g25p := of_decide_eq_true g25
    refine wl_off rfl rfl g25 rfl ?_
    refine wl_off rfl rfl g25 rfl ?_
    refine wl_off rfl rfl g25 rfl ?_
    refine wl_off rfl rfl g25 rfl ?_
    refine wl_off rfl rfl g25 rfl ?_
    refine wl_off rfl rfl g25 rfl ?_
    refine wl_v rfl rfl rfl (v_pick_t rfl g25 rfl) ?_
    refine wl_nil ?_
    refine wc_cond_t rfl ?_
    refine wc_seq ?_
    refine wc_region ?_
    refine wl_v rfl rfl rfl (v_assign rfl) ?_
    refine wl_nil ?_
    refine wc_ret ?_
    first
      | exact ⟨_, res1 rfl rfl, congrArg (Value.int .i64) (by rw [cellF_no (by omega)]), H⟩
      | exact ⟨_, res1 rfl rfl, congrArg (Value.int .i64) (by have e1 : IntKind.i64.wrap (base.getD s.toNat 0 + k) = base.getD s.toNat 0 + k := (by omega); have e2 : check.getD (IntKind.i64.wrap (base.getD s.toNat 0 + k)).toNat 0 = check.getD (base.getD s.toNat 0 + k).toNat 0 := congrArg (fun z : Int => check.getD z.toNat 0) e1; rw [cellF_no (by omega)]), H⟩
      | exact ⟨_, res1 rfl rfl, congrArg (Value.int .i64) (by have e1 : IntKind.i64.wrap (base.getD s.toNat 0 + k) = base.getD s.toNat 0 + k := (by omega); have e2 : check.getD (IntKind.i64.wrap (base.getD s.toNat 0 + k)).toNat 0 = check.getD (base.getD s.toNat 0 + k).toNat 0 := congrArg (fun z : Int => check.getD z.toNat 0) e1; rw [cellF_yes (by omega), e1]), H⟩
  ·have g16p := of_decide_eq_true g16
   refine wl_off rfl rfl g16 rfl ?_
   refine wl_off rfl rfl g16 rfl ?_
   refine wl_off rfl rfl g16 rfl ?_
   refine wl_off rfl rfl g16 rfl ?_
   refine wl_off rfl rfl g16 rfl ?_
   refine wl_off rfl rfl g16 rfl ?_
   refine wl_v rfl rfl rfl (v_pick_t rfl g16 rfl) ?_
   refine wl_v rfl rfl rfl (v_move rfl) ?_
   refine wl_off rfl rfl rfl rfl ?_
   refine wl_off rfl rfl rfl rfl ?_
   refine wl_off rfl rfl rfl rfl ?_
   refine wl_off rfl rfl rfl rfl ?_
   refine wl_off rfl rfl rfl rfl ?_
   refine wl_off rfl rfl rfl rfl ?_
   refine wl_off rfl rfl rfl rfl ?_
   refine wl_v rfl rfl rfl (v_pick_t rfl rfl rfl) ?_
   refine wl_nil ?_
   refine wc_cond_t rfl ?_
   refine wc_seq ?_
   refine wc_region ?_
   refine wl_v rfl rfl rfl (v_assign rfl) ?_
   refine wl_nil ?_
   refine wc_ret ?_
   first
     | exact ⟨_, res1 rfl rfl, congrArg (Value.int .i64) (by rw [cellF_no (by omega)]), H⟩
     | exact ⟨_, res1 rfl rfl, congrArg (Value.int .i64) (by have e1 : IntKind.i64.wrap (base.getD s.toNat 0 + k) = base.getD s.toNat 0 + k := (by omega); have e2 : check.getD (IntKind.i64.wrap (base.getD s.toNat 0 + k)).toNat 0 = check.getD (base.getD s.toNat 0 + k).toNat 0 := congrArg (fun z : Int => check.getD z.toNat 0) e1; rw [cellF_no (by omega)]), H⟩
     | exact ⟨_, res1 rfl rfl, congrArg (Value.int .i64) (by have e1 : IntKind.i64.wrap (base.getD s.toNat 0 + k) = base.getD s.toNat 0 + k := (by omega); have e2 : check.getD (IntKind.i64.wrap (base.getD s.toNat 0 + k)).toNat 0 = check.getD (base.getD s.toNat 0 + k).toNat 0 := congrArg (fun z : Int => check.getD z.toNat 0) e1; rw [cellF_yes (by omega), e1]), H⟩

set_option maxRecDepth 100000 in
theorem there_calls {A B : Option Addr} {ca cb : Nat} {base check : List Int} {cells : Nat} {s k : Int} {w : World} (hb : Rd (kInt .i64) w A base) (hc : Rd (kInt .i64) w B check) (q1 : base.length ≤ 1099511627776) (q2 : check.length ≤ 1099511627776) (hi : ∀ x ∈ base, I64 x) (hs : 0 ≤ s) (hk : 0 ≤ k) (hk2 : k ≤ 9223372036854775807) :
    Calls Try.prog 51 #[.slice A base.length ca, .slice B check.length cb, .int .i64 s, .int .i64 k, .int .i64 cells] w fun e w' => ∃ v, e = .returned v ∧ v = .int .i64 (cellF base check cells s k) ∧ Holds w [] w' := by
  refine calls_of Try.func51 rfl Try.ntmps51 rfl ?_
  have H := Holds.start w
  refine wc_seq ?_
  refine wc_region ?_
  refine wl_v rfl rfl rfl (v_assign rfl) ?_
  refine wl_nil ?_
  refine wc_seq ?_
  refine wc_seq ?_
  refine wc_region ?_
  refine wl_v rfl rfl rfl (v_move rfl) ?_
  refine wl_v rfl rfl rfl (v_move rfl) ?_
  refine wl_v rfl rfl rfl (v_len Try.underlying39 rfl) ?_
  refine wl_v rfl rfl rfl (v_geq rfl rfl) ?_
  refine wl_nil ?_
  refine wc_cond rfl (fun c0 => ?_) (fun c0 => ?_)
  ·have c0p := of_decide_eq_true c0
   refine wc_seq ?_
   refine wc_region ?_
   refine wl_v rfl rfl rfl (v_assign rfl) ?_
   refine wl_nil ?_
   refine wc_ret ?_
   first
     | exact ⟨_, res1 rfl rfl, congrArg (Value.int .i64) (by rw [cellF_no (by omega)]), H⟩
     | exact ⟨_, res1 rfl rfl, congrArg (Value.int .i64) (by have e1 : IntKind.i64.wrap (base.getD s.toNat 0 + k) = base.getD s.toNat 0 + k := (by omega); have e2 : check.getD (IntKind.i64.wrap (base.getD s.toNat 0 + k)).toNat 0 = check.getD (base.getD s.toNat 0 + k).toNat 0 := congrArg (fun z : Int => check.getD z.toNat 0) e1; rw [cellF_no (by omega)]), H⟩
     | exact ⟨_, res1 rfl rfl, congrArg (Value.int .i64) (by have e1 : IntKind.i64.wrap (base.getD s.toNat 0 + k) = base.getD s.toNat 0 + k := (by omega); have e2 : check.getD (IntKind.i64.wrap (base.getD s.toNat 0 + k)).toNat 0 = check.getD (base.getD s.toNat 0 + k).toNat 0 := congrArg (fun z : Int => check.getD z.toNat 0) e1; rw [cellF_yes (by omega), e1]), H⟩
  ·have c0p := of_decide_eq_false c0
   have hib := hi (base.getD s.toNat 0) (getD_mem (by omega))
   unfold I64 at hib
   have hw := wrap_cases (x := base.getD s.toNat 0 + k) (by omega) (by omega)
   refine wc_skip ?_
   refine wc_seq ?_
   refine wc_region ?_
   refine wl_v rfl rfl rfl (v_move rfl) ?_
   refine wl_v rfl rfl rfl (v_move rfl) ?_
   refine wl_v rfl rfl rfl (v_idx Try.underlying39 sz3 hb.ad rfl rfl (by omega) (by omega)) ?_
   refine wl_v rfl rfl rfl (v_load one3 rfl (H.cell (hb.at1 (by omega) (by omega)))) ?_
   refine wl_v rfl rfl rfl (v_assign rfl) ?_
   refine wl_nil ?_
   refine wc_seq ?_
   refine wc_seq ?_
   refine wc_region ?_
   refine wl_v rfl rfl rfl (v_move rfl) ?_
   refine wl_v rfl rfl rfl (v_lss rfl rfl) ?_
   refine wl_v rfl rfl rfl (v_move rfl) ?_
   refine wl_guard rfl rfl rfl (fun g23 => ?_) (fun g23 => ?_)
   ·have g23p := of_decide_eq_true g23
    refine wl_v rfl rfl rfl (v_move rfl) ?_
    refine wl_on' rfl rfl g23 ?_
    refine wl_v rfl rfl rfl (v_move rfl) ?_
    refine wl_on' rfl rfl g23 ?_
    refine wl_v rfl rfl rfl (v_add rfl rfl) ?_
    refine wl_on' rfl rfl g23 ?_
    refine wl_v rfl rfl rfl (v_lss rfl rfl) ?_
    refine wl_v rfl rfl rfl (v_pick_t rfl g23 rfl) ?_
    refine wl_v rfl rfl rfl (v_move rfl) ?_
    refine wl_guard rfl rfl rfl (fun g29 => ?_) (fun g29 => ?_)
    ·have g29p := of_decide_eq_false g29
     refine wl_v rfl rfl rfl (v_move rfl) ?_
     refine wl_on' rfl rfl g29 ?_
     refine wl_v rfl rfl rfl (v_gtr rfl rfl) ?_
     refine wl_v rfl rfl rfl (v_pick_f rfl g29 rfl) ?_
     refine wl_nil ?_
     refine wc_cond rfl (fun c1 => ?_) (fun c1 => ?_)
     ·have c1p := of_decide_eq_true c1
      refine wc_seq ?_
      refine wc_region ?_
      refine wl_v rfl rfl rfl (v_assign rfl) ?_
      refine wl_nil ?_
      refine wc_ret ?_
      first
        | exact ⟨_, res1 rfl rfl, congrArg (Value.int .i64) (by rw [cellF_no (by omega)]), H⟩
        | exact ⟨_, res1 rfl rfl, congrArg (Value.int .i64) (by have e1 : IntKind.i64.wrap (base.getD s.toNat 0 + k) = base.getD s.toNat 0 + k := (by omega); have e2 : check.getD (IntKind.i64.wrap (base.getD s.toNat 0 + k)).toNat 0 = check.getD (base.getD s.toNat 0 + k).toNat 0 := congrArg (fun z : Int => check.getD z.toNat 0) e1; rw [cellF_no (by omega)]), H⟩
        | exact ⟨_, res1 rfl rfl, congrArg (Value.int .i64) (by have e1 : IntKind.i64.wrap (base.getD s.toNat 0 + k) = base.getD s.toNat 0 + k := (by omega); have e2 : check.getD (IntKind.i64.wrap (base.getD s.toNat 0 + k)).toNat 0 = check.getD (base.getD s.toNat 0 + k).toNat 0 := congrArg (fun z : Int => check.getD z.toNat 0) e1; rw [cellF_yes (by omega), e1]), H⟩
     ·have c1p := of_decide_eq_false c1
      refine wc_skip ?_
      refine wc_seq ?_
      refine wc_region ?_
      refine wl_v rfl rfl rfl (v_move rfl) ?_
      refine wl_v rfl rfl rfl (v_move rfl) ?_
      refine wl_v rfl rfl rfl (v_add rfl rfl) ?_
      refine wl_v rfl rfl rfl (v_assign rfl) ?_
      refine wl_nil ?_
      refine wc_seq ?_
      refine wc_seq ?_
      refine wc_region ?_
      refine wl_v rfl rfl rfl (v_move rfl) ?_
      refine wl_v rfl rfl rfl (v_lss rfl rfl) ?_
      refine wl_v rfl rfl rfl (v_move rfl) ?_
      refine wl_guard rfl rfl rfl (fun g38 => ?_) (fun g38 => ?_)
      ·have g38p := of_decide_eq_false g38
       refine wl_v rfl rfl rfl (v_move rfl) ?_
       refine wl_on' rfl rfl g38 ?_
       refine wl_v rfl rfl rfl (v_move rfl) ?_
       refine wl_on' rfl rfl g38 ?_
       refine wl_v rfl rfl rfl (v_len Try.underlying39 rfl) ?_
       refine wl_on' rfl rfl g38 ?_
       refine wl_v rfl rfl rfl (v_geq rfl rfl) ?_
       refine wl_v rfl rfl rfl (v_pick_f rfl g38 rfl) ?_
       refine wl_v rfl rfl rfl (v_move rfl) ?_
       refine wl_guard rfl rfl rfl (fun g44 => ?_) (fun g44 => ?_)
       ·have g44p := of_decide_eq_false g44
        refine wl_v rfl rfl rfl (v_move rfl) ?_
        refine wl_on' rfl rfl g44 ?_
        refine wl_v rfl rfl rfl (v_move rfl) ?_
        refine wl_on' rfl rfl g44 ?_
        refine wl_v rfl rfl rfl (v_geq rfl rfl) ?_
        refine wl_v rfl rfl rfl (v_pick_f rfl g44 rfl) ?_
        refine wl_v rfl rfl rfl (v_move rfl) ?_
        refine wl_guard rfl rfl rfl (fun g49 => ?_) (fun g49 => ?_)
        ·have g49p := of_decide_eq_false g49
         refine wl_v rfl rfl rfl (v_move rfl) ?_
         refine wl_on' rfl rfl g49 ?_
         refine wl_v rfl rfl rfl (v_move rfl) ?_
         refine wl_on' rfl rfl g49 ?_
         refine wl_v rfl rfl rfl (v_idx Try.underlying39 sz3 hc.ad rfl rfl (by omega) (by omega)) ?_
         refine wl_on' rfl rfl g49 ?_
         refine wl_v rfl rfl rfl (v_load one3 rfl (H.cell (hc.at1 (by omega) (by omega)))) ?_
         refine wl_on' rfl rfl g49 ?_
         refine wl_v rfl rfl rfl (v_move rfl) ?_
         refine wl_on' rfl rfl g49 ?_
         refine wl_v rfl rfl rfl (v_neq rfl rfl) ?_
         refine wl_v rfl rfl rfl (v_pick_f rfl g49 rfl) ?_
         refine wl_nil ?_
         refine wc_cond rfl (fun c2 => ?_) (fun c2 => ?_)
         ·have c2p := of_nd_t c2
          refine wc_seq ?_
          refine wc_region ?_
          refine wl_v rfl rfl rfl (v_assign rfl) ?_
          refine wl_nil ?_
          refine wc_ret ?_
          first
            | exact ⟨_, res1 rfl rfl, congrArg (Value.int .i64) (by rw [cellF_no (by omega)]), H⟩
            | exact ⟨_, res1 rfl rfl, congrArg (Value.int .i64) (by have e1 : IntKind.i64.wrap (base.getD s.toNat 0 + k) = base.getD s.toNat 0 + k := (by omega); have e2 : check.getD (IntKind.i64.wrap (base.getD s.toNat 0 + k)).toNat 0 = check.getD (base.getD s.toNat 0 + k).toNat 0 := congrArg (fun z : Int => check.getD z.toNat 0) e1; rw [cellF_no (by omega)]), H⟩
            | exact ⟨_, res1 rfl rfl, congrArg (Value.int .i64) (by have e1 : IntKind.i64.wrap (base.getD s.toNat 0 + k) = base.getD s.toNat 0 + k := (by omega); have e2 : check.getD (IntKind.i64.wrap (base.getD s.toNat 0 + k)).toNat 0 = check.getD (base.getD s.toNat 0 + k).toNat 0 := congrArg (fun z : Int => check.getD z.toNat 0) e1; rw [cellF_yes (by omega), e1]), H⟩
         ·have c2p := of_nd_f c2
          refine wc_skip ?_
          refine wc_seq ?_
          refine wc_region ?_
          refine wl_v rfl rfl rfl (v_move rfl) ?_
          refine wl_v rfl rfl rfl (v_assign rfl) ?_
          refine wl_nil ?_
          refine wc_ret ?_
          first
            | exact ⟨_, res1 rfl rfl, congrArg (Value.int .i64) (by rw [cellF_no (by omega)]), H⟩
            | exact ⟨_, res1 rfl rfl, congrArg (Value.int .i64) (by have e1 : IntKind.i64.wrap (base.getD s.toNat 0 + k) = base.getD s.toNat 0 + k := (by omega); have e2 : check.getD (IntKind.i64.wrap (base.getD s.toNat 0 + k)).toNat 0 = check.getD (base.getD s.toNat 0 + k).toNat 0 := congrArg (fun z : Int => check.getD z.toNat 0) e1; rw [cellF_no (by omega)]), H⟩
            | exact ⟨_, res1 rfl rfl, congrArg (Value.int .i64) (by have e1 : IntKind.i64.wrap (base.getD s.toNat 0 + k) = base.getD s.toNat 0 + k := (by omega); have e2 : check.getD (IntKind.i64.wrap (base.getD s.toNat 0 + k)).toNat 0 = check.getD (base.getD s.toNat 0 + k).toNat 0 := congrArg (fun z : Int => check.getD z.toNat 0) e1; rw [cellF_yes (by omega), e1]), H⟩
        ·have g49p := of_decide_eq_true g49
         refine wl_off rfl rfl g49 rfl ?_
         refine wl_off rfl rfl g49 rfl ?_
         refine wl_off rfl rfl g49 rfl ?_
         refine wl_off rfl rfl g49 rfl ?_
         refine wl_off rfl rfl g49 rfl ?_
         refine wl_v rfl rfl rfl (v_pick_t rfl g49 rfl) ?_
         refine wl_nil ?_
         refine wc_cond_t rfl ?_
         refine wc_seq ?_
         refine wc_region ?_
         refine wl_v rfl rfl rfl (v_assign rfl) ?_
         refine wl_nil ?_
         refine wc_ret ?_
         first
           | exact ⟨_, res1 rfl rfl, congrArg (Value.int .i64) (by rw [cellF_no (by omega)]), H⟩
           | exact ⟨_, res1 rfl rfl, congrArg (Value.int .i64) (by have e1 : IntKind.i64.wrap (base.getD s.toNat 0 + k) = base.getD s.toNat 0 + k := (by omega); have e2 : check.getD (IntKind.i64.wrap (base.getD s.toNat 0 + k)).toNat 0 = check.getD (base.getD s.toNat 0 + k).toNat 0 := congrArg (fun z : Int => check.getD z.toNat 0) e1; rw [cellF_no (by omega)]), H⟩
           | exact ⟨_, res1 rfl rfl, congrArg (Value.int .i64) (by have e1 : IntKind.i64.wrap (base.getD s.toNat 0 + k) = base.getD s.toNat 0 + k := (by omega); have e2 : check.getD (IntKind.i64.wrap (base.getD s.toNat 0 + k)).toNat 0 = check.getD (base.getD s.toNat 0 + k).toNat 0 := congrArg (fun z : Int => check.getD z.toNat 0) e1; rw [cellF_yes (by omega), e1]), H⟩
       ·have g44p := of_decide_eq_true g44
        refine wl_off rfl rfl g44 rfl ?_
        refine wl_off rfl rfl g44 rfl ?_
        refine wl_v rfl rfl rfl (v_pick_t rfl g44 rfl) ?_
        refine wl_v rfl rfl rfl (v_move rfl) ?_
        refine wl_off rfl rfl rfl rfl ?_
        refine wl_off rfl rfl rfl rfl ?_
        refine wl_off rfl rfl rfl rfl ?_
        refine wl_off rfl rfl rfl rfl ?_
        refine wl_off rfl rfl rfl rfl ?_
        refine wl_off rfl rfl rfl rfl ?_
        refine wl_v rfl rfl rfl (v_pick_t rfl rfl rfl) ?_
        refine wl_nil ?_
        refine wc_cond_t rfl ?_
        refine wc_seq ?_
        refine wc_region ?_
        refine wl_v rfl rfl rfl (v_assign rfl) ?_
        refine wl_nil ?_
        refine wc_ret ?_
        first
          | exact ⟨_, res1 rfl rfl, congrArg (Value.int .i64) (by rw [cellF_no (by omega)]), H⟩
          | exact ⟨_, res1 rfl rfl, congrArg (Value.int .i64) (by have e1 : IntKind.i64.wrap (base.getD s.toNat 0 + k) = base.getD s.toNat 0 + k := (by omega); have e2 : check.getD (IntKind.i64.wrap (base.getD s.toNat 0 + k)).toNat 0 = check.getD (base.getD s.toNat 0 + k).toNat 0 := congrArg (fun z : Int => check.getD z.toNat 0) e1; rw [cellF_no (by omega)]), H⟩
          | exact ⟨_, res1 rfl rfl, congrArg (Value.int .i64) (by have e1 : IntKind.i64.wrap (base.getD s.toNat 0 + k) = base.getD s.toNat 0 + k := (by omega); have e2 : check.getD (IntKind.i64.wrap (base.getD s.toNat 0 + k)).toNat 0 = check.getD (base.getD s.toNat 0 + k).toNat 0 := congrArg (fun z : Int => check.getD z.toNat 0) e1; rw [cellF_yes (by omega), e1]), H⟩
      ·have g38p := of_decide_eq_true g38
       refine wl_off rfl rfl g38 rfl ?_
       refine wl_off rfl rfl g38 rfl ?_
       refine wl_off rfl rfl g38 rfl ?_
       refine wl_v rfl rfl rfl (v_pick_t rfl g38 rfl) ?_
       refine wl_v rfl rfl rfl (v_move rfl) ?_
       refine wl_off rfl rfl rfl rfl ?_
       refine wl_off rfl rfl rfl rfl ?_
       refine wl_off rfl rfl rfl rfl ?_
       refine wl_v rfl rfl rfl (v_pick_t rfl rfl rfl) ?_
       refine wl_v rfl rfl rfl (v_move rfl) ?_
       refine wl_off rfl rfl rfl rfl ?_
       refine wl_off rfl rfl rfl rfl ?_
       refine wl_off rfl rfl rfl rfl ?_
       refine wl_off rfl rfl rfl rfl ?_
       refine wl_off rfl rfl rfl rfl ?_
       refine wl_off rfl rfl rfl rfl ?_
       refine wl_v rfl rfl rfl (v_pick_t rfl rfl rfl) ?_
       refine wl_nil ?_
       refine wc_cond_t rfl ?_
       refine wc_seq ?_
       refine wc_region ?_
       refine wl_v rfl rfl rfl (v_assign rfl) ?_
       refine wl_nil ?_
       refine wc_ret ?_
       first
         | exact ⟨_, res1 rfl rfl, congrArg (Value.int .i64) (by rw [cellF_no (by omega)]), H⟩
         | exact ⟨_, res1 rfl rfl, congrArg (Value.int .i64) (by have e1 : IntKind.i64.wrap (base.getD s.toNat 0 + k) = base.getD s.toNat 0 + k := (by omega); have e2 : check.getD (IntKind.i64.wrap (base.getD s.toNat 0 + k)).toNat 0 = check.getD (base.getD s.toNat 0 + k).toNat 0 := congrArg (fun z : Int => check.getD z.toNat 0) e1; rw [cellF_no (by omega)]), H⟩
         | exact ⟨_, res1 rfl rfl, congrArg (Value.int .i64) (by have e1 : IntKind.i64.wrap (base.getD s.toNat 0 + k) = base.getD s.toNat 0 + k := (by omega); have e2 : check.getD (IntKind.i64.wrap (base.getD s.toNat 0 + k)).toNat 0 = check.getD (base.getD s.toNat 0 + k).toNat 0 := congrArg (fun z : Int => check.getD z.toNat 0) e1; rw [cellF_yes (by omega), e1]), H⟩
    ·have g29p := of_decide_eq_true g29
     refine wl_off rfl rfl g29 rfl ?_
     refine wl_v rfl rfl rfl (v_pick_t rfl g29 rfl) ?_
     refine wl_nil ?_
     refine wc_cond_t rfl ?_
     refine wc_seq ?_
     refine wc_region ?_
     refine wl_v rfl rfl rfl (v_assign rfl) ?_
     refine wl_nil ?_
     refine wc_ret ?_
     first
       | exact ⟨_, res1 rfl rfl, congrArg (Value.int .i64) (by rw [cellF_no (by omega)]), H⟩
       | exact ⟨_, res1 rfl rfl, congrArg (Value.int .i64) (by have e1 : IntKind.i64.wrap (base.getD s.toNat 0 + k) = base.getD s.toNat 0 + k := (by omega); have e2 : check.getD (IntKind.i64.wrap (base.getD s.toNat 0 + k)).toNat 0 = check.getD (base.getD s.toNat 0 + k).toNat 0 := congrArg (fun z : Int => check.getD z.toNat 0) e1; rw [cellF_no (by omega)]), H⟩
       | exact ⟨_, res1 rfl rfl, congrArg (Value.int .i64) (by have e1 : IntKind.i64.wrap (base.getD s.toNat 0 + k) = base.getD s.toNat 0 + k := (by omega); have e2 : check.getD (IntKind.i64.wrap (base.getD s.toNat 0 + k)).toNat 0 = check.getD (base.getD s.toNat 0 + k).toNat 0 := congrArg (fun z : Int => check.getD z.toNat 0) e1; rw [cellF_yes (by omega), e1]), H⟩
   ·have g23p := of_decide_eq_false g23
    refine wl_off rfl rfl g23 rfl ?_
    refine wl_off rfl rfl g23 rfl ?_
    refine wl_off rfl rfl g23 rfl ?_
    refine wl_v rfl rfl rfl (v_pick_f rfl g23 rfl) ?_
    refine wl_v rfl rfl rfl (v_move rfl) ?_
    refine wl_on' rfl rfl rfl ?_
    refine wl_v rfl rfl rfl (v_move rfl) ?_
    refine wl_on' rfl rfl rfl ?_
    refine wl_v rfl rfl rfl (v_gtr rfl rfl) ?_
    refine wl_v rfl rfl rfl (v_pick_f rfl rfl rfl) ?_
    refine wl_nil ?_
    refine wc_cond rfl (fun c1 => ?_) (fun c1 => ?_)
    ·have c1p := of_decide_eq_true c1
     refine wc_seq ?_
     refine wc_region ?_
     refine wl_v rfl rfl rfl (v_assign rfl) ?_
     refine wl_nil ?_
     refine wc_ret ?_
     first
       | exact ⟨_, res1 rfl rfl, congrArg (Value.int .i64) (by rw [cellF_no (by omega)]), H⟩
       | exact ⟨_, res1 rfl rfl, congrArg (Value.int .i64) (by have e1 : IntKind.i64.wrap (base.getD s.toNat 0 + k) = base.getD s.toNat 0 + k := (by omega); have e2 : check.getD (IntKind.i64.wrap (base.getD s.toNat 0 + k)).toNat 0 = check.getD (base.getD s.toNat 0 + k).toNat 0 := congrArg (fun z : Int => check.getD z.toNat 0) e1; rw [cellF_no (by omega)]), H⟩
       | exact ⟨_, res1 rfl rfl, congrArg (Value.int .i64) (by have e1 : IntKind.i64.wrap (base.getD s.toNat 0 + k) = base.getD s.toNat 0 + k := (by omega); have e2 : check.getD (IntKind.i64.wrap (base.getD s.toNat 0 + k)).toNat 0 = check.getD (base.getD s.toNat 0 + k).toNat 0 := congrArg (fun z : Int => check.getD z.toNat 0) e1; rw [cellF_yes (by omega), e1]), H⟩
    ·have c1p := of_decide_eq_false c1
     refine wc_skip ?_
     refine wc_seq ?_
     refine wc_region ?_
     refine wl_v rfl rfl rfl (v_move rfl) ?_
     refine wl_v rfl rfl rfl (v_move rfl) ?_
     refine wl_v rfl rfl rfl (v_add rfl rfl) ?_
     refine wl_v rfl rfl rfl (v_assign rfl) ?_
     refine wl_nil ?_
     refine wc_seq ?_
     refine wc_seq ?_
     refine wc_region ?_
     refine wl_v rfl rfl rfl (v_move rfl) ?_
     refine wl_v rfl rfl rfl (v_lss rfl rfl) ?_
     refine wl_v rfl rfl rfl (v_move rfl) ?_
     refine wl_guard rfl rfl rfl (fun g38 => ?_) (fun g38 => ?_)
     ·have g38p := of_decide_eq_false g38
      refine wl_v rfl rfl rfl (v_move rfl) ?_
      refine wl_on' rfl rfl g38 ?_
      refine wl_v rfl rfl rfl (v_move rfl) ?_
      refine wl_on' rfl rfl g38 ?_
      refine wl_v rfl rfl rfl (v_len Try.underlying39 rfl) ?_
      refine wl_on' rfl rfl g38 ?_
      refine wl_v rfl rfl rfl (v_geq rfl rfl) ?_
      refine wl_v rfl rfl rfl (v_pick_f rfl g38 rfl) ?_
      refine wl_v rfl rfl rfl (v_move rfl) ?_
      refine wl_guard rfl rfl rfl (fun g44 => ?_) (fun g44 => ?_)
      ·have g44p := of_decide_eq_false g44
       refine wl_v rfl rfl rfl (v_move rfl) ?_
       refine wl_on' rfl rfl g44 ?_
       refine wl_v rfl rfl rfl (v_move rfl) ?_
       refine wl_on' rfl rfl g44 ?_
       refine wl_v rfl rfl rfl (v_geq rfl rfl) ?_
       refine wl_v rfl rfl rfl (v_pick_f rfl g44 rfl) ?_
       refine wl_v rfl rfl rfl (v_move rfl) ?_
       refine wl_guard rfl rfl rfl (fun g49 => ?_) (fun g49 => ?_)
       ·have g49p := of_decide_eq_false g49
        refine wl_v rfl rfl rfl (v_move rfl) ?_
        refine wl_on' rfl rfl g49 ?_
        refine wl_v rfl rfl rfl (v_move rfl) ?_
        refine wl_on' rfl rfl g49 ?_
        refine wl_v rfl rfl rfl (v_idx Try.underlying39 sz3 hc.ad rfl rfl (by omega) (by omega)) ?_
        refine wl_on' rfl rfl g49 ?_
        refine wl_v rfl rfl rfl (v_load one3 rfl (H.cell (hc.at1 (by omega) (by omega)))) ?_
        refine wl_on' rfl rfl g49 ?_
        refine wl_v rfl rfl rfl (v_move rfl) ?_
        refine wl_on' rfl rfl g49 ?_
        refine wl_v rfl rfl rfl (v_neq rfl rfl) ?_
        refine wl_v rfl rfl rfl (v_pick_f rfl g49 rfl) ?_
        refine wl_nil ?_
        refine wc_cond rfl (fun c2 => ?_) (fun c2 => ?_)
        ·have c2p := of_nd_t c2
         refine wc_seq ?_
         refine wc_region ?_
         refine wl_v rfl rfl rfl (v_assign rfl) ?_
         refine wl_nil ?_
         refine wc_ret ?_
         first
           | exact ⟨_, res1 rfl rfl, congrArg (Value.int .i64) (by rw [cellF_no (by omega)]), H⟩
           | exact ⟨_, res1 rfl rfl, congrArg (Value.int .i64) (by have e1 : IntKind.i64.wrap (base.getD s.toNat 0 + k) = base.getD s.toNat 0 + k := (by omega); have e2 : check.getD (IntKind.i64.wrap (base.getD s.toNat 0 + k)).toNat 0 = check.getD (base.getD s.toNat 0 + k).toNat 0 := congrArg (fun z : Int => check.getD z.toNat 0) e1; rw [cellF_no (by omega)]), H⟩
           | exact ⟨_, res1 rfl rfl, congrArg (Value.int .i64) (by have e1 : IntKind.i64.wrap (base.getD s.toNat 0 + k) = base.getD s.toNat 0 + k := (by omega); have e2 : check.getD (IntKind.i64.wrap (base.getD s.toNat 0 + k)).toNat 0 = check.getD (base.getD s.toNat 0 + k).toNat 0 := congrArg (fun z : Int => check.getD z.toNat 0) e1; rw [cellF_yes (by omega), e1]), H⟩
        ·have c2p := of_nd_f c2
         refine wc_skip ?_
         refine wc_seq ?_
         refine wc_region ?_
         refine wl_v rfl rfl rfl (v_move rfl) ?_
         refine wl_v rfl rfl rfl (v_assign rfl) ?_
         refine wl_nil ?_
         refine wc_ret ?_
         first
           | exact ⟨_, res1 rfl rfl, congrArg (Value.int .i64) (by rw [cellF_no (by omega)]), H⟩
           | exact ⟨_, res1 rfl rfl, congrArg (Value.int .i64) (by have e1 : IntKind.i64.wrap (base.getD s.toNat 0 + k) = base.getD s.toNat 0 + k := (by omega); have e2 : check.getD (IntKind.i64.wrap (base.getD s.toNat 0 + k)).toNat 0 = check.getD (base.getD s.toNat 0 + k).toNat 0 := congrArg (fun z : Int => check.getD z.toNat 0) e1; rw [cellF_no (by omega)]), H⟩
           | exact ⟨_, res1 rfl rfl, congrArg (Value.int .i64) (by have e1 : IntKind.i64.wrap (base.getD s.toNat 0 + k) = base.getD s.toNat 0 + k := (by omega); have e2 : check.getD (IntKind.i64.wrap (base.getD s.toNat 0 + k)).toNat 0 = check.getD (base.getD s.toNat 0 + k).toNat 0 := congrArg (fun z : Int => check.getD z.toNat 0) e1; rw [cellF_yes (by omega), e1]), H⟩
       ·have g49p := of_decide_eq_true g49
        refine wl_off rfl rfl g49 rfl ?_
        refine wl_off rfl rfl g49 rfl ?_
        refine wl_off rfl rfl g49 rfl ?_
        refine wl_off rfl rfl g49 rfl ?_
        refine wl_off rfl rfl g49 rfl ?_
        refine wl_v rfl rfl rfl (v_pick_t rfl g49 rfl) ?_
        refine wl_nil ?_
        refine wc_cond_t rfl ?_
        refine wc_seq ?_
        refine wc_region ?_
        refine wl_v rfl rfl rfl (v_assign rfl) ?_
        refine wl_nil ?_
        refine wc_ret ?_
        first
          | exact ⟨_, res1 rfl rfl, congrArg (Value.int .i64) (by rw [cellF_no (by omega)]), H⟩
          | exact ⟨_, res1 rfl rfl, congrArg (Value.int .i64) (by have e1 : IntKind.i64.wrap (base.getD s.toNat 0 + k) = base.getD s.toNat 0 + k := (by omega); have e2 : check.getD (IntKind.i64.wrap (base.getD s.toNat 0 + k)).toNat 0 = check.getD (base.getD s.toNat 0 + k).toNat 0 := congrArg (fun z : Int => check.getD z.toNat 0) e1; rw [cellF_no (by omega)]), H⟩
          | exact ⟨_, res1 rfl rfl, congrArg (Value.int .i64) (by have e1 : IntKind.i64.wrap (base.getD s.toNat 0 + k) = base.getD s.toNat 0 + k := (by omega); have e2 : check.getD (IntKind.i64.wrap (base.getD s.toNat 0 + k)).toNat 0 = check.getD (base.getD s.toNat 0 + k).toNat 0 := congrArg (fun z : Int => check.getD z.toNat 0) e1; rw [cellF_yes (by omega), e1]), H⟩
      ·have g44p := of_decide_eq_true g44
       refine wl_off rfl rfl g44 rfl ?_
       refine wl_off rfl rfl g44 rfl ?_
       refine wl_v rfl rfl rfl (v_pick_t rfl g44 rfl) ?_
       refine wl_v rfl rfl rfl (v_move rfl) ?_
       refine wl_off rfl rfl rfl rfl ?_
       refine wl_off rfl rfl rfl rfl ?_
       refine wl_off rfl rfl rfl rfl ?_
       refine wl_off rfl rfl rfl rfl ?_
       refine wl_off rfl rfl rfl rfl ?_
       refine wl_off rfl rfl rfl rfl ?_
       refine wl_v rfl rfl rfl (v_pick_t rfl rfl rfl) ?_
       refine wl_nil ?_
       refine wc_cond_t rfl ?_
       refine wc_seq ?_
       refine wc_region ?_
       refine wl_v rfl rfl rfl (v_assign rfl) ?_
       refine wl_nil ?_
       refine wc_ret ?_
       first
         | exact ⟨_, res1 rfl rfl, congrArg (Value.int .i64) (by rw [cellF_no (by omega)]), H⟩
         | exact ⟨_, res1 rfl rfl, congrArg (Value.int .i64) (by have e1 : IntKind.i64.wrap (base.getD s.toNat 0 + k) = base.getD s.toNat 0 + k := (by omega); have e2 : check.getD (IntKind.i64.wrap (base.getD s.toNat 0 + k)).toNat 0 = check.getD (base.getD s.toNat 0 + k).toNat 0 := congrArg (fun z : Int => check.getD z.toNat 0) e1; rw [cellF_no (by omega)]), H⟩
         | exact ⟨_, res1 rfl rfl, congrArg (Value.int .i64) (by have e1 : IntKind.i64.wrap (base.getD s.toNat 0 + k) = base.getD s.toNat 0 + k := (by omega); have e2 : check.getD (IntKind.i64.wrap (base.getD s.toNat 0 + k)).toNat 0 = check.getD (base.getD s.toNat 0 + k).toNat 0 := congrArg (fun z : Int => check.getD z.toNat 0) e1; rw [cellF_yes (by omega), e1]), H⟩
     ·have g38p := of_decide_eq_true g38
      refine wl_off rfl rfl g38 rfl ?_
      refine wl_off rfl rfl g38 rfl ?_
      refine wl_off rfl rfl g38 rfl ?_
      refine wl_v rfl rfl rfl (v_pick_t rfl g38 rfl) ?_
      refine wl_v rfl rfl rfl (v_move rfl) ?_
      refine wl_off rfl rfl rfl rfl ?_
      refine wl_off rfl rfl rfl rfl ?_
      refine wl_off rfl rfl rfl rfl ?_
      refine wl_v rfl rfl rfl (v_pick_t rfl rfl rfl) ?_
      refine wl_v rfl rfl rfl (v_move rfl) ?_
      refine wl_off rfl rfl rfl rfl ?_
      refine wl_off rfl rfl rfl rfl ?_
      refine wl_off rfl rfl rfl rfl ?_
      refine wl_off rfl rfl rfl rfl ?_
      refine wl_off rfl rfl rfl rfl ?_
      refine wl_off rfl rfl rfl rfl ?_
      refine wl_v rfl rfl rfl (v_pick_t rfl rfl rfl) ?_
      refine wl_nil ?_
      refine wc_cond_t rfl ?_
      refine wc_seq ?_
      refine wc_region ?_
      refine wl_v rfl rfl rfl (v_assign rfl) ?_
      refine wl_nil ?_
      refine wc_ret ?_
      first
        | exact ⟨_, res1 rfl rfl, congrArg (Value.int .i64) (by rw [cellF_no (by omega)]), H⟩
        | exact ⟨_, res1 rfl rfl, congrArg (Value.int .i64) (by have e1 : IntKind.i64.wrap (base.getD s.toNat 0 + k) = base.getD s.toNat 0 + k := (by omega); have e2 : check.getD (IntKind.i64.wrap (base.getD s.toNat 0 + k)).toNat 0 = check.getD (base.getD s.toNat 0 + k).toNat 0 := congrArg (fun z : Int => check.getD z.toNat 0) e1; rw [cellF_no (by omega)]), H⟩
        | exact ⟨_, res1 rfl rfl, congrArg (Value.int .i64) (by have e1 : IntKind.i64.wrap (base.getD s.toNat 0 + k) = base.getD s.toNat 0 + k := (by omega); have e2 : check.getD (IntKind.i64.wrap (base.getD s.toNat 0 + k)).toNat 0 = check.getD (base.getD s.toNat 0 + k).toNat 0 := congrArg (fun z : Int => check.getD z.toNat 0) e1; rw [cellF_yes (by omega), e1]), H⟩

set_option maxRecDepth 100000 in
theorem rmove2_calls {a : PkA} {p : Pk} {s k : Int} {w : World} (hp : p.rd w a) (hk : p.ok) (is : I64 s) (ik : I64 k) :
    Calls Try.prog 24 #[p.val a, .int .i64 s, .int .i64 k] w fun e w' => ∃ v, e = .returned v ∧ v = .agg (fMv.enc (lookMv p s k)).toArray ∧ Holds w [] w' := by
  have q1 := hk.d
  have q2 := hk.b
  have q3 := hk.c
  have q4 := hk.e
  have q5 := hk.gb
  have q6 := hk.gc
  have q7 := hk.ge
  unfold I64 at is ik
  refine calls_of Try.func24 rfl Try.ntmps24 rfl ?_
  have H := Holds.start w
  refine wc_seq ?_
  refine wc_region ?_
  refine wl_box (cs := [_, _, _, _, _, _, _, _, _]) H rfl rfl rfl ?_
  intro b3 w1 hb3 H2
  refine wl_alloc (cs := [.int .i64 0, .int .i64 0]) H2 rfl zv48 rfl ?_
  intro b6 w3 hb6 H4
  refine wl_nil ?_
  refine wc_seq ?_
  refine wc_seq ?_
  refine wc_region ?_
  refine wl_v rfl rfl rfl (v_move rfl) ?_
  refine wl_v rfl rfl rfl (v_lss rfl rfl) ?_
  refine wl_v rfl rfl rfl (v_move rfl) ?_
  refine wl_guard rfl rfl rfl (fun g10 => ?_) (fun g10 => ?_)
  ·have g10p := of_decide_eq_false g10
   refine wl_v rfl rfl rfl (v_move rfl) ?_
   refine wl_on' rfl rfl g10 ?_
   refine wl_v rfl rfl rfl (v_fb (o2 := 2) fa41_2 rfl rfl) ?_
   refine wl_on' rfl rfl g10 ?_
   refine wl_v rfl rfl rfl (v_load one38 rfl (H4.at (by repeat constructor) rfl)) ?_
   refine wl_on' rfl rfl g10 ?_
   refine wl_v rfl rfl rfl (v_len Try.underlying38 rfl) ?_
   refine wl_on' rfl rfl g10 ?_
   refine wl_v rfl rfl rfl (v_geq rfl rfl) ?_
   refine wl_v rfl rfl rfl (v_pick_f rfl g10 rfl) ?_
   refine wl_v rfl rfl rfl (v_move rfl) ?_
   refine wl_guard rfl rfl rfl (fun g17 => ?_) (fun g17 => ?_)
   ·have g17p := of_decide_eq_false g17
    refine wl_v rfl rfl rfl (v_move rfl) ?_
    refine wl_on' rfl rfl g17 ?_
    refine wl_v rfl rfl rfl (v_lss rfl rfl) ?_
    refine wl_v rfl rfl rfl (v_pick_f rfl g17 rfl) ?_
    refine wl_v rfl rfl rfl (v_move rfl) ?_
    refine wl_guard rfl rfl rfl (fun g21 => ?_) (fun g21 => ?_)
    ·have g21p := of_decide_eq_false g21
     refine wl_v rfl rfl rfl (v_move rfl) ?_
     refine wl_on' rfl rfl g21 ?_
     refine wl_v rfl rfl rfl (v_fb (o2 := 0) fa41_0 rfl rfl) ?_
     refine wl_on' rfl rfl g21 ?_
     refine wl_v rfl rfl rfl (v_load one3 rfl (H4.at (by repeat constructor) rfl)) ?_
     refine wl_on' rfl rfl g21 ?_
     refine wl_v rfl rfl rfl (v_geq rfl rfl) ?_
     refine wl_v rfl rfl rfl (v_pick_f rfl g21 rfl) ?_
     refine wl_nil ?_
     refine wc_cond rfl (fun c0 => ?_) (fun c0 => ?_)
     ·have c0p := of_decide_eq_true c0
      refine wc_seq ?_
      refine wc_region ?_
      refine wl_v rfl rfl rfl (v_bld ba48 rfl (by repeat constructor)) ?_
      refine wl_store (vs := [_, _]) H4 (by repeat constructor) sz48 rfl rfl rfl rfl rfl (by (repeat constructor)) ?_
      intro w5 H6 hw5
      refine wl_nil ?_
      refine wc_ret ?_
      first
        | exact ⟨_, resc rfl rfl (run_loadVarN agg48 rfl (H6.ats (by repeat constructor))), by rw [lookMv, if_pos (by omega)]; rfl, H6.pm (by repeat constructor)⟩
        | exact ⟨_, resc rfl rfl (run_loadVarN agg48 rfl (H6.ats (by repeat constructor))), by rw [lookMv, if_neg (by omega), if_pos (by omega)]; rfl, H6.pm (by repeat constructor)⟩
        | exact ⟨_, resc rfl rfl (run_loadVarN agg48 rfl (H6.ats (by repeat constructor))), by rw [lookMv, if_neg (by omega), if_neg (by omega)]; rfl, H6.pm (by repeat constructor)⟩
     ·have c0p := of_decide_eq_false c0
      refine wc_skip ?_
      refine wc_seq ?_
      refine wc_region ?_
      refine wl_v rfl rfl rfl (v_fb (o2 := 3) fa41_3 rfl rfl) ?_
      refine wl_v rfl rfl rfl (v_load one39 rfl (H4.at (by repeat constructor) rfl)) ?_
      refine wl_v rfl rfl rfl (v_fb (o2 := 4) fa41_4 rfl rfl) ?_
      refine wl_v rfl rfl rfl (v_load one39 rfl (H4.at (by repeat constructor) rfl)) ?_
      refine wl_v rfl rfl rfl (v_move rfl) ?_
      refine wl_v rfl rfl rfl (v_move rfl) ?_
      refine wl_v rfl rfl rfl (v_fb (o2 := 5) fa41_5 rfl rfl) ?_
      refine wl_v rfl rfl rfl (v_load one38 rfl (H4.at (by repeat constructor) rfl)) ?_
      refine wl_v rfl rfl rfl (v_len Try.underlying38 rfl) ?_
      refine wl_call en51 rfl rfl (there_calls (hp.b.below H4.old) (hp.c.below H4.old) hk.b hk.c hk.ib (by omega) (by omega) (by omega)) ?_
      rintro _ w7 ⟨rfl, Hc⟩
      have H8 := H4.call Hc
      have hlt := cellF_lt (base := p.base) (check := p.check) (cells := p.cell.length) (s := s) (k := k)
      refine wl_v rfl rfl rfl (v_assign rfl) ?_
      refine wl_nil ?_
      refine wc_seq ?_
      refine wc_seq ?_
      refine wc_region ?_
      refine wl_v rfl rfl rfl (v_move rfl) ?_
      refine wl_v rfl rfl rfl (v_lss rfl rfl) ?_
      refine wl_nil ?_
      refine wc_cond rfl (fun c1 => ?_) (fun c1 => ?_)
      ·have c1p := of_decide_eq_true c1
       refine wc_seq ?_
       refine wc_region ?_
       refine wl_v rfl rfl rfl (v_fb (o2 := 2) fa41_2 rfl rfl) ?_
       refine wl_v rfl rfl rfl (v_load one38 rfl (H8.at (by repeat constructor) rfl)) ?_
       refine wl_v rfl rfl rfl (v_move rfl) ?_
       refine wl_v rfl rfl rfl (v_idx Try.underlying38 sz48 hp.d.ad rfl rfl (by omega) (by omega)) ?_
       refine wl_v rfl rfl rfl (v_loadN (cs := fMv.enc _) agg48 rfl rfl (fun k u hu => H8.cell (hp.d.at (k := k) mv0 (by omega) (by omega) hu))) ?_
       refine wl_store (vs := [_, _]) H8 (by repeat constructor) sz48 rfl rfl rfl rfl rfl (by (repeat constructor)) ?_
       intro w9 H10 hw9
       refine wl_nil ?_
       refine wc_ret ?_
       first
         | exact ⟨_, resc rfl rfl (run_loadVarN agg48 rfl (H10.ats (by repeat constructor))), by rw [lookMv, if_pos (by omega)]; rfl, H10.pm (by repeat constructor)⟩
         | exact ⟨_, resc rfl rfl (run_loadVarN agg48 rfl (H10.ats (by repeat constructor))), by rw [lookMv, if_neg (by omega), if_pos (by omega)]; rfl, H10.pm (by repeat constructor)⟩
         | exact ⟨_, resc rfl rfl (run_loadVarN agg48 rfl (H10.ats (by repeat constructor))), by rw [lookMv, if_neg (by omega), if_neg (by omega)]; rfl, H10.pm (by repeat constructor)⟩
      ·have c1p := of_decide_eq_false c1
       refine wc_skip ?_
       refine wc_seq ?_
       refine wc_region ?_
       refine wl_v rfl rfl rfl (v_fb (o2 := 5) fa41_5 rfl rfl) ?_
       refine wl_v rfl rfl rfl (v_load one38 rfl (H8.at (by repeat constructor) rfl)) ?_
       refine wl_v rfl rfl rfl (v_move rfl) ?_
       refine wl_v rfl rfl rfl (v_idx Try.underlying38 sz48 hp.e.ad rfl rfl (by omega) (by omega)) ?_
       refine wl_v rfl rfl rfl (v_loadN (cs := fMv.enc _) agg48 rfl rfl (fun k u hu => H8.cell (hp.e.at (k := k) mv0 (by omega) (by omega) hu))) ?_
       refine wl_store (vs := [_, _]) H8 (by repeat constructor) sz48 rfl rfl rfl rfl rfl (by (repeat constructor)) ?_
       intro w11 H12 hw11
       refine wl_nil ?_
       refine wc_ret ?_
       first
         | exact ⟨_, resc rfl rfl (run_loadVarN agg48 rfl (H12.ats (by repeat constructor))), by rw [lookMv, if_pos (by omega)]; rfl, H12.pm (by repeat constructor)⟩
         | exact ⟨_, resc rfl rfl (run_loadVarN agg48 rfl (H12.ats (by repeat constructor))), by rw [lookMv, if_neg (by omega), if_pos (by omega)]; rfl, H12.pm (by repeat constructor)⟩
         | exact ⟨_, resc rfl rfl (run_loadVarN agg48 rfl (H12.ats (by repeat constructor))), by rw [lookMv, if_neg (by omega), if_neg (by omega)]; rfl, H12.pm (by repeat constructor)⟩
    ·have g21p := of_decide_eq_true g21
     refine wl_off rfl rfl g21 rfl ?_
     refine wl_off rfl rfl g21 rfl ?_
     refine wl_off rfl rfl g21 rfl ?_
     refine wl_v rfl rfl rfl (v_pick_t rfl g21 rfl) ?_
     refine wl_nil ?_
     refine wc_cond_t rfl ?_
     refine wc_seq ?_
     refine wc_region ?_
     refine wl_v rfl rfl rfl (v_bld ba48 rfl (by repeat constructor)) ?_
     refine wl_store (vs := [_, _]) H4 (by repeat constructor) sz48 rfl rfl rfl rfl rfl (by (repeat constructor)) ?_
     intro w13 H14 hw13
     refine wl_nil ?_
     refine wc_ret ?_
     first
       | exact ⟨_, resc rfl rfl (run_loadVarN agg48 rfl (H14.ats (by repeat constructor))), by rw [lookMv, if_pos (by omega)]; rfl, H14.pm (by repeat constructor)⟩
       | exact ⟨_, resc rfl rfl (run_loadVarN agg48 rfl (H14.ats (by repeat constructor))), by rw [lookMv, if_neg (by omega), if_pos (by omega)]; rfl, H14.pm (by repeat constructor)⟩
       | exact ⟨_, resc rfl rfl (run_loadVarN agg48 rfl (H14.ats (by repeat constructor))), by rw [lookMv, if_neg (by omega), if_neg (by omega)]; rfl, H14.pm (by repeat constructor)⟩
   ·have g17p := of_decide_eq_true g17
    refine wl_off rfl rfl g17 rfl ?_
    refine wl_v rfl rfl rfl (v_pick_t rfl g17 rfl) ?_
    refine wl_v rfl rfl rfl (v_move rfl) ?_
    refine wl_off rfl rfl rfl rfl ?_
    refine wl_off rfl rfl rfl rfl ?_
    refine wl_off rfl rfl rfl rfl ?_
    refine wl_off rfl rfl rfl rfl ?_
    refine wl_v rfl rfl rfl (v_pick_t rfl rfl rfl) ?_
    refine wl_nil ?_
    refine wc_cond_t rfl ?_
    refine wc_seq ?_
    refine wc_region ?_
    refine wl_v rfl rfl rfl (v_bld ba48 rfl (by repeat constructor)) ?_
    refine wl_store (vs := [_, _]) H4 (by repeat constructor) sz48 rfl rfl rfl rfl rfl (by (repeat constructor)) ?_
    intro w15 H16 hw15
    refine wl_nil ?_
    refine wc_ret ?_
    first
      | exact ⟨_, resc rfl rfl (run_loadVarN agg48 rfl (H16.ats (by repeat constructor))), by rw [lookMv, if_pos (by omega)]; rfl, H16.pm (by repeat constructor)⟩
      | exact ⟨_, resc rfl rfl (run_loadVarN agg48 rfl (H16.ats (by repeat constructor))), by rw [lookMv, if_neg (by omega), if_pos (by omega)]; rfl, H16.pm (by repeat constructor)⟩
      | exact ⟨_, resc rfl rfl (run_loadVarN agg48 rfl (H16.ats (by repeat constructor))), by rw [lookMv, if_neg (by omega), if_neg (by omega)]; rfl, H16.pm (by repeat constructor)⟩
  ·have g10p := of_decide_eq_true g10
   refine wl_off rfl rfl g10 rfl ?_
   refine wl_off rfl rfl g10 rfl ?_
   refine wl_off rfl rfl g10 rfl ?_
   refine wl_off rfl rfl g10 rfl ?_
   refine wl_v rfl rfl rfl (v_pick_t rfl g10 rfl) ?_
   refine wl_v rfl rfl rfl (v_move rfl) ?_
   refine wl_off rfl rfl rfl rfl ?_
   refine wl_off rfl rfl rfl rfl ?_
   refine wl_v rfl rfl rfl (v_pick_t rfl rfl rfl) ?_
   refine wl_v rfl rfl rfl (v_move rfl) ?_
   refine wl_off rfl rfl rfl rfl ?_
   refine wl_off rfl rfl rfl rfl ?_
   refine wl_off rfl rfl rfl rfl ?_
   refine wl_off rfl rfl rfl rfl ?_
   refine wl_v rfl rfl rfl (v_pick_t rfl rfl rfl) ?_
   refine wl_nil ?_
   refine wc_cond_t rfl ?_
   refine wc_seq ?_
   refine wc_region ?_
   refine wl_v rfl rfl rfl (v_bld ba48 rfl (by repeat constructor)) ?_
   refine wl_store (vs := [_, _]) H4 (by repeat constructor) sz48 rfl rfl rfl rfl rfl (by (repeat constructor)) ?_
   intro w17 H18 hw17
   refine wl_nil ?_
   refine wc_ret ?_
   first
     | exact ⟨_, resc rfl rfl (run_loadVarN agg48 rfl (H18.ats (by repeat constructor))), by rw [lookMv, if_pos (by omega)]; rfl, H18.pm (by repeat constructor)⟩
     | exact ⟨_, resc rfl rfl (run_loadVarN agg48 rfl (H18.ats (by repeat constructor))), by rw [lookMv, if_neg (by omega), if_pos (by omega)]; rfl, H18.pm (by repeat constructor)⟩
     | exact ⟨_, resc rfl rfl (run_loadVarN agg48 rfl (H18.ats (by repeat constructor))), by rw [lookMv, if_neg (by omega), if_neg (by omega)]; rfl, H18.pm (by repeat constructor)⟩

set_option maxRecDepth 100000 in
theorem move2_calls {a : PkA} {p : Pk} {s k : Int} {w : World} (hp : p.rd w a) (hk : p.ok) (is : I64 s) (ik : I64 k) :
    Calls Try.prog 23 #[p.val a, .int .i64 s, .int .i64 k] w fun e w' => ∃ v, e = .returned v ∧ v = .agg (fMv.enc (lookMv p s k)).toArray ∧ Holds w [] w' := by
  have q1 := hk.d
  have q2 := hk.b
  have q3 := hk.c
  have q4 := hk.e
  have q5 := hk.gb
  have q6 := hk.gc
  have q7 := hk.ge
  unfold I64 at is ik
  refine calls_of Try.func23 rfl Try.ntmps23 rfl ?_
  have H := Holds.start w
  refine wc_seq ?_
  refine wc_region ?_
  refine wl_box (cs := [_, _, _, _, _, _, _, _, _]) H rfl rfl rfl ?_
  intro b3 w1 hb3 H2
  refine wl_alloc (cs := [.int .i64 0, .int .i64 0]) H2 rfl zv48 rfl ?_
  intro b6 w3 hb6 H4
  refine wl_nil ?_
  refine wc_seq ?_
  refine wc_seq ?_
  refine wc_region ?_
  refine wl_v rfl rfl rfl (v_move rfl) ?_
  refine wl_v rfl rfl rfl (v_lss rfl rfl) ?_
  refine wl_v rfl rfl rfl (v_move rfl) ?_
  refine wl_guard rfl rfl rfl (fun g10 => ?_) (fun g10 => ?_)
  ·have g10p := of_decide_eq_false g10
   refine wl_v rfl rfl rfl (v_move rfl) ?_
   refine wl_on' rfl rfl g10 ?_
   refine wl_v rfl rfl rfl (v_fb (o2 := 2) fa41_2 rfl rfl) ?_
   refine wl_on' rfl rfl g10 ?_
   refine wl_v rfl rfl rfl (v_load one38 rfl (H4.at (by repeat constructor) rfl)) ?_
   refine wl_on' rfl rfl g10 ?_
   refine wl_v rfl rfl rfl (v_len Try.underlying38 rfl) ?_
   refine wl_on' rfl rfl g10 ?_
   refine wl_v rfl rfl rfl (v_geq rfl rfl) ?_
   refine wl_v rfl rfl rfl (v_pick_f rfl g10 rfl) ?_
   refine wl_v rfl rfl rfl (v_move rfl) ?_
   refine wl_guard rfl rfl rfl (fun g17 => ?_) (fun g17 => ?_)
   ·have g17p := of_decide_eq_false g17
    refine wl_v rfl rfl rfl (v_move rfl) ?_
    refine wl_on' rfl rfl g17 ?_
    refine wl_v rfl rfl rfl (v_lss rfl rfl) ?_
    refine wl_v rfl rfl rfl (v_pick_f rfl g17 rfl) ?_
    refine wl_v rfl rfl rfl (v_move rfl) ?_
    refine wl_guard rfl rfl rfl (fun g21 => ?_) (fun g21 => ?_)
    ·have g21p := of_decide_eq_false g21
     refine wl_v rfl rfl rfl (v_move rfl) ?_
     refine wl_on' rfl rfl g21 ?_
     refine wl_v rfl rfl rfl (v_fb (o2 := 0) fa41_0 rfl rfl) ?_
     refine wl_on' rfl rfl g21 ?_
     refine wl_v rfl rfl rfl (v_load one3 rfl (H4.at (by repeat constructor) rfl)) ?_
     refine wl_on' rfl rfl g21 ?_
     refine wl_v rfl rfl rfl (v_geq rfl rfl) ?_
     refine wl_v rfl rfl rfl (v_pick_f rfl g21 rfl) ?_
     refine wl_nil ?_
     refine wc_cond rfl (fun c0 => ?_) (fun c0 => ?_)
     ·have c0p := of_decide_eq_true c0
      refine wc_seq ?_
      refine wc_region ?_
      refine wl_v rfl rfl rfl (v_bld ba48 rfl (by repeat constructor)) ?_
      refine wl_store (vs := [_, _]) H4 (by repeat constructor) sz48 rfl rfl rfl rfl rfl (by (repeat constructor)) ?_
      intro w5 H6 hw5
      refine wl_nil ?_
      refine wc_ret ?_
      first
        | exact ⟨_, resc rfl rfl (run_loadVarN agg48 rfl (H6.ats (by repeat constructor))), by rw [lookMv, if_pos (by omega)]; rfl, H6.pm (by repeat constructor)⟩
        | exact ⟨_, resc rfl rfl (run_loadVarN agg48 rfl (H6.ats (by repeat constructor))), by rw [lookMv, if_neg (by omega), if_pos (by omega)]; rfl, H6.pm (by repeat constructor)⟩
        | exact ⟨_, resc rfl rfl (run_loadVarN agg48 rfl (H6.ats (by repeat constructor))), by rw [lookMv, if_neg (by omega), if_neg (by omega)]; rfl, H6.pm (by repeat constructor)⟩
     ·have c0p := of_decide_eq_false c0
      refine wc_skip ?_
      refine wc_seq ?_
      refine wc_seq ?_
      refine wc_region ?_
      refine wl_v rfl rfl rfl (v_fb (o2 := 3) fa41_3 rfl rfl) ?_
      refine wl_v rfl rfl rfl (v_load one39 rfl (H4.at (by repeat constructor) rfl)) ?_
      refine wl_v rfl rfl rfl (v_fb (o2 := 4) fa41_4 rfl rfl) ?_
      refine wl_v rfl rfl rfl (v_load one39 rfl (H4.at (by repeat constructor) rfl)) ?_
      refine wl_v rfl rfl rfl (v_fb (o2 := 5) fa41_5 rfl rfl) ?_
      refine wl_v rfl rfl rfl (v_load one38 rfl (H4.at (by repeat constructor) rfl)) ?_
      refine wl_v rfl rfl rfl (v_len Try.underlying38 rfl) ?_
      refine wl_v rfl rfl rfl (v_move rfl) ?_
      refine wl_v rfl rfl rfl (v_move rfl) ?_
      refine wl_call en50 rfl rfl (cell_calls (hp.b.below H4.old) (hp.c.below H4.old) hk.b hk.c hk.ib (by omega) (by omega) (by omega)) ?_
      rintro _ w7 ⟨rfl, Hc⟩
      have H8 := H4.call Hc
      have hlt := cellF_lt (base := p.base) (check := p.check) (cells := p.cell.length) (s := s) (k := k)
      refine wl_v rfl rfl rfl (v_assign rfl) ?_
      refine wl_nil ?_
      refine wc_seq ?_
      refine wc_region ?_
      refine wl_v rfl rfl rfl (v_move rfl) ?_
      refine wl_v rfl rfl rfl (v_geq rfl rfl) ?_
      refine wl_nil ?_
      refine wc_cond rfl (fun c1 => ?_) (fun c1 => ?_)
      ·have c1p := of_decide_eq_true c1
       refine wc_seq ?_
       refine wc_region ?_
       refine wl_v rfl rfl rfl (v_fb (o2 := 5) fa41_5 rfl rfl) ?_
       refine wl_v rfl rfl rfl (v_load one38 rfl (H8.at (by repeat constructor) rfl)) ?_
       refine wl_v rfl rfl rfl (v_move rfl) ?_
       refine wl_v rfl rfl rfl (v_idx Try.underlying38 sz48 hp.e.ad rfl rfl (by omega) (by omega)) ?_
       refine wl_v rfl rfl rfl (v_loadN (cs := fMv.enc _) agg48 rfl rfl (fun k u hu => H8.cell (hp.e.at (k := k) mv0 (by omega) (by omega) hu))) ?_
       refine wl_store (vs := [_, _]) H8 (by repeat constructor) sz48 rfl rfl rfl rfl rfl (by (repeat constructor)) ?_
       intro w9 H10 hw9
       refine wl_nil ?_
       refine wc_ret ?_
       first
         | exact ⟨_, resc rfl rfl (run_loadVarN agg48 rfl (H10.ats (by repeat constructor))), by rw [lookMv, if_pos (by omega)]; rfl, H10.pm (by repeat constructor)⟩
         | exact ⟨_, resc rfl rfl (run_loadVarN agg48 rfl (H10.ats (by repeat constructor))), by rw [lookMv, if_neg (by omega), if_pos (by omega)]; rfl, H10.pm (by repeat constructor)⟩
         | exact ⟨_, resc rfl rfl (run_loadVarN agg48 rfl (H10.ats (by repeat constructor))), by rw [lookMv, if_neg (by omega), if_neg (by omega)]; rfl, H10.pm (by repeat constructor)⟩
      ·have c1p := of_decide_eq_false c1
       refine wc_skip ?_
       refine wc_seq ?_
       refine wc_region ?_
       refine wl_v rfl rfl rfl (v_fb (o2 := 2) fa41_2 rfl rfl) ?_
       refine wl_v rfl rfl rfl (v_load one38 rfl (H8.at (by repeat constructor) rfl)) ?_
       refine wl_v rfl rfl rfl (v_move rfl) ?_
       refine wl_v rfl rfl rfl (v_idx Try.underlying38 sz48 hp.d.ad rfl rfl (by omega) (by omega)) ?_
       refine wl_v rfl rfl rfl (v_loadN (cs := fMv.enc _) agg48 rfl rfl (fun k u hu => H8.cell (hp.d.at (k := k) mv0 (by omega) (by omega) hu))) ?_
       refine wl_store (vs := [_, _]) H8 (by repeat constructor) sz48 rfl rfl rfl rfl rfl (by (repeat constructor)) ?_
       intro w11 H12 hw11
       refine wl_nil ?_
       refine wc_ret ?_
       first
         | exact ⟨_, resc rfl rfl (run_loadVarN agg48 rfl (H12.ats (by repeat constructor))), by rw [lookMv, if_pos (by omega)]; rfl, H12.pm (by repeat constructor)⟩
         | exact ⟨_, resc rfl rfl (run_loadVarN agg48 rfl (H12.ats (by repeat constructor))), by rw [lookMv, if_neg (by omega), if_pos (by omega)]; rfl, H12.pm (by repeat constructor)⟩
         | exact ⟨_, resc rfl rfl (run_loadVarN agg48 rfl (H12.ats (by repeat constructor))), by rw [lookMv, if_neg (by omega), if_neg (by omega)]; rfl, H12.pm (by repeat constructor)⟩
    ·have g21p := of_decide_eq_true g21
     refine wl_off rfl rfl g21 rfl ?_
     refine wl_off rfl rfl g21 rfl ?_
     refine wl_off rfl rfl g21 rfl ?_
     refine wl_v rfl rfl rfl (v_pick_t rfl g21 rfl) ?_
     refine wl_nil ?_
     refine wc_cond_t rfl ?_
     refine wc_seq ?_
     refine wc_region ?_
     refine wl_v rfl rfl rfl (v_bld ba48 rfl (by repeat constructor)) ?_
     refine wl_store (vs := [_, _]) H4 (by repeat constructor) sz48 rfl rfl rfl rfl rfl (by (repeat constructor)) ?_
     intro w13 H14 hw13
     refine wl_nil ?_
     refine wc_ret ?_
     first
       | exact ⟨_, resc rfl rfl (run_loadVarN agg48 rfl (H14.ats (by repeat constructor))), by rw [lookMv, if_pos (by omega)]; rfl, H14.pm (by repeat constructor)⟩
       | exact ⟨_, resc rfl rfl (run_loadVarN agg48 rfl (H14.ats (by repeat constructor))), by rw [lookMv, if_neg (by omega), if_pos (by omega)]; rfl, H14.pm (by repeat constructor)⟩
       | exact ⟨_, resc rfl rfl (run_loadVarN agg48 rfl (H14.ats (by repeat constructor))), by rw [lookMv, if_neg (by omega), if_neg (by omega)]; rfl, H14.pm (by repeat constructor)⟩
   ·have g17p := of_decide_eq_true g17
    refine wl_off rfl rfl g17 rfl ?_
    refine wl_v rfl rfl rfl (v_pick_t rfl g17 rfl) ?_
    refine wl_v rfl rfl rfl (v_move rfl) ?_
    refine wl_off rfl rfl rfl rfl ?_
    refine wl_off rfl rfl rfl rfl ?_
    refine wl_off rfl rfl rfl rfl ?_
    refine wl_off rfl rfl rfl rfl ?_
    refine wl_v rfl rfl rfl (v_pick_t rfl rfl rfl) ?_
    refine wl_nil ?_
    refine wc_cond_t rfl ?_
    refine wc_seq ?_
    refine wc_region ?_
    refine wl_v rfl rfl rfl (v_bld ba48 rfl (by repeat constructor)) ?_
    refine wl_store (vs := [_, _]) H4 (by repeat constructor) sz48 rfl rfl rfl rfl rfl (by (repeat constructor)) ?_
    intro w15 H16 hw15
    refine wl_nil ?_
    refine wc_ret ?_
    first
      | exact ⟨_, resc rfl rfl (run_loadVarN agg48 rfl (H16.ats (by repeat constructor))), by rw [lookMv, if_pos (by omega)]; rfl, H16.pm (by repeat constructor)⟩
      | exact ⟨_, resc rfl rfl (run_loadVarN agg48 rfl (H16.ats (by repeat constructor))), by rw [lookMv, if_neg (by omega), if_pos (by omega)]; rfl, H16.pm (by repeat constructor)⟩
      | exact ⟨_, resc rfl rfl (run_loadVarN agg48 rfl (H16.ats (by repeat constructor))), by rw [lookMv, if_neg (by omega), if_neg (by omega)]; rfl, H16.pm (by repeat constructor)⟩
  ·have g10p := of_decide_eq_true g10
   refine wl_off rfl rfl g10 rfl ?_
   refine wl_off rfl rfl g10 rfl ?_
   refine wl_off rfl rfl g10 rfl ?_
   refine wl_off rfl rfl g10 rfl ?_
   refine wl_v rfl rfl rfl (v_pick_t rfl g10 rfl) ?_
   refine wl_v rfl rfl rfl (v_move rfl) ?_
   refine wl_off rfl rfl rfl rfl ?_
   refine wl_off rfl rfl rfl rfl ?_
   refine wl_v rfl rfl rfl (v_pick_t rfl rfl rfl) ?_
   refine wl_v rfl rfl rfl (v_move rfl) ?_
   refine wl_off rfl rfl rfl rfl ?_
   refine wl_off rfl rfl rfl rfl ?_
   refine wl_off rfl rfl rfl rfl ?_
   refine wl_off rfl rfl rfl rfl ?_
   refine wl_v rfl rfl rfl (v_pick_t rfl rfl rfl) ?_
   refine wl_nil ?_
   refine wc_cond_t rfl ?_
   refine wc_seq ?_
   refine wc_region ?_
   refine wl_v rfl rfl rfl (v_bld ba48 rfl (by repeat constructor)) ?_
   refine wl_store (vs := [_, _]) H4 (by repeat constructor) sz48 rfl rfl rfl rfl rfl (by (repeat constructor)) ?_
   intro w17 H18 hw17
   refine wl_nil ?_
   refine wc_ret ?_
   first
     | exact ⟨_, resc rfl rfl (run_loadVarN agg48 rfl (H18.ats (by repeat constructor))), by rw [lookMv, if_pos (by omega)]; rfl, H18.pm (by repeat constructor)⟩
     | exact ⟨_, resc rfl rfl (run_loadVarN agg48 rfl (H18.ats (by repeat constructor))), by rw [lookMv, if_neg (by omega), if_pos (by omega)]; rfl, H18.pm (by repeat constructor)⟩
     | exact ⟨_, resc rfl rfl (run_loadVarN agg48 rfl (H18.ats (by repeat constructor))), by rw [lookMv, if_neg (by omega), if_neg (by omega)]; rfl, H18.pm (by repeat constructor)⟩

set_option maxRecDepth 100000 in
theorem rgoto_calls {a : PkA} {p : Pk} {s k : Int} {w : World} (hp : p.rd w a) (hk : p.ok) (is : I64 s) (ik : I64 k) :
    Calls Try.prog 26 #[p.val a, .int .i64 s, .int .i64 k] w fun e w' => ∃ v, e = .returned v ∧ v = .int .i64 (lookGo p s k) ∧ Holds w [] w' := by
  have q1 := hk.d
  have q2 := hk.b
  have q3 := hk.c
  have q4 := hk.e
  have q5 := hk.gb
  have q6 := hk.gc
  have q7 := hk.ge
  unfold I64 at is ik
  refine calls_of Try.func26 rfl Try.ntmps26 rfl ?_
  have H := Holds.start w
  refine wc_seq ?_
  refine wc_region ?_
  refine wl_box (cs := [_, _, _, _, _, _, _, _, _]) H rfl rfl rfl ?_
  intro b3 w1 hb3 H2
  refine wl_v rfl rfl rfl (v_assign rfl) ?_
  refine wl_nil ?_
  refine wc_seq ?_
  refine wc_seq ?_
  refine wc_region ?_
  refine wl_v rfl rfl rfl (v_move rfl) ?_
  refine wl_v rfl rfl rfl (v_lss rfl rfl) ?_
  refine wl_v rfl rfl rfl (v_move rfl) ?_
  refine wl_guard rfl rfl rfl (fun g10 => ?_) (fun g10 => ?_)
  ·have g10p := of_decide_eq_false g10
   refine wl_v rfl rfl rfl (v_move rfl) ?_
   refine wl_on' rfl rfl g10 ?_
   refine wl_v rfl rfl rfl (v_fb (o2 := 2) fa41_2 rfl rfl) ?_
   refine wl_on' rfl rfl g10 ?_
   refine wl_v rfl rfl rfl (v_load one38 rfl (H2.at (by repeat constructor) rfl)) ?_
   refine wl_on' rfl rfl g10 ?_
   refine wl_v rfl rfl rfl (v_len Try.underlying38 rfl) ?_
   refine wl_on' rfl rfl g10 ?_
   refine wl_v rfl rfl rfl (v_geq rfl rfl) ?_
   refine wl_v rfl rfl rfl (v_pick_f rfl g10 rfl) ?_
   refine wl_v rfl rfl rfl (v_move rfl) ?_
   refine wl_guard rfl rfl rfl (fun g17 => ?_) (fun g17 => ?_)
   ·have g17p := of_decide_eq_false g17
    refine wl_v rfl rfl rfl (v_move rfl) ?_
    refine wl_on' rfl rfl g17 ?_
    refine wl_v rfl rfl rfl (v_lss rfl rfl) ?_
    refine wl_v rfl rfl rfl (v_pick_f rfl g17 rfl) ?_
    refine wl_v rfl rfl rfl (v_move rfl) ?_
    refine wl_guard rfl rfl rfl (fun g21 => ?_) (fun g21 => ?_)
    ·have g21p := of_decide_eq_false g21
     refine wl_v rfl rfl rfl (v_move rfl) ?_
     refine wl_on' rfl rfl g21 ?_
     refine wl_v rfl rfl rfl (v_fb (o2 := 1) fa41_1 rfl rfl) ?_
     refine wl_on' rfl rfl g21 ?_
     refine wl_v rfl rfl rfl (v_load one3 rfl (H2.at (by repeat constructor) rfl)) ?_
     refine wl_on' rfl rfl g21 ?_
     refine wl_v rfl rfl rfl (v_geq rfl rfl) ?_
     refine wl_v rfl rfl rfl (v_pick_f rfl g21 rfl) ?_
     refine wl_nil ?_
     refine wc_cond rfl (fun c0 => ?_) (fun c0 => ?_)
     ·have c0p := of_decide_eq_true c0
      refine wc_seq ?_
      refine wc_region ?_
      refine wl_v rfl rfl rfl (v_assign rfl) ?_
      refine wl_nil ?_
      refine wc_ret ?_
      first
        | exact ⟨_, res1 rfl rfl, by rw [lookGo, if_pos (by omega)], H2.pm (by repeat constructor)⟩
        | exact ⟨_, res1 rfl rfl, by rw [lookGo, if_neg (by omega), if_pos (by omega)], H2.pm (by repeat constructor)⟩
        | exact ⟨_, res1 rfl rfl, by rw [lookGo, if_neg (by omega), if_neg (by omega)], H2.pm (by repeat constructor)⟩
     ·have c0p := of_decide_eq_false c0
      refine wc_skip ?_
      refine wc_seq ?_
      refine wc_region ?_
      refine wl_v rfl rfl rfl (v_fb (o2 := 6) fa41_6 rfl rfl) ?_
      refine wl_v rfl rfl rfl (v_load one39 rfl (H2.at (by repeat constructor) rfl)) ?_
      refine wl_v rfl rfl rfl (v_fb (o2 := 7) fa41_7 rfl rfl) ?_
      refine wl_v rfl rfl rfl (v_load one39 rfl (H2.at (by repeat constructor) rfl)) ?_
      refine wl_v rfl rfl rfl (v_move rfl) ?_
      refine wl_v rfl rfl rfl (v_move rfl) ?_
      refine wl_v rfl rfl rfl (v_fb (o2 := 8) fa41_8 rfl rfl) ?_
      refine wl_v rfl rfl rfl (v_load one39 rfl (H2.at (by repeat constructor) rfl)) ?_
      refine wl_v rfl rfl rfl (v_len Try.underlying39 rfl) ?_
      refine wl_call en51 rfl rfl (there_calls (hp.gb.below H2.old) (hp.gc.below H2.old) hk.gb hk.gc hk.igb (by omega) (by omega) (by omega)) ?_
      rintro _ w3 ⟨rfl, Hc⟩
      have H4 := H2.call Hc
      have hlt := cellF_lt (base := p.gbase) (check := p.gcheck) (cells := p.gcell.length) (s := s) (k := k)
      refine wl_v rfl rfl rfl (v_assign rfl) ?_
      refine wl_nil ?_
      refine wc_seq ?_
      refine wc_seq ?_
      refine wc_region ?_
      refine wl_v rfl rfl rfl (v_move rfl) ?_
      refine wl_v rfl rfl rfl (v_lss rfl rfl) ?_
      refine wl_nil ?_
      refine wc_cond rfl (fun c1 => ?_) (fun c1 => ?_)
      ·have c1p := of_decide_eq_true c1
       refine wc_seq ?_
       refine wc_region ?_
       refine wl_v rfl rfl rfl (v_assign rfl) ?_
       refine wl_nil ?_
       refine wc_ret ?_
       first
         | exact ⟨_, res1 rfl rfl, by rw [lookGo, if_pos (by omega)], H4.pm (by repeat constructor)⟩
         | exact ⟨_, res1 rfl rfl, by rw [lookGo, if_neg (by omega), if_pos (by omega)], H4.pm (by repeat constructor)⟩
         | exact ⟨_, res1 rfl rfl, by rw [lookGo, if_neg (by omega), if_neg (by omega)], H4.pm (by repeat constructor)⟩
      ·have c1p := of_decide_eq_false c1
       refine wc_skip ?_
       refine wc_seq ?_
       refine wc_region ?_
       refine wl_v rfl rfl rfl (v_fb (o2 := 8) fa41_8 rfl rfl) ?_
       refine wl_v rfl rfl rfl (v_load one39 rfl (H4.at (by repeat constructor) rfl)) ?_
       refine wl_v rfl rfl rfl (v_move rfl) ?_
       refine wl_v rfl rfl rfl (v_idx Try.underlying39 sz3 hp.ge.ad rfl rfl (by omega) (by omega)) ?_
       refine wl_v rfl rfl rfl (v_load one3 rfl (H4.cell (hp.ge.at1 (by omega) (by omega)))) ?_
       refine wl_v rfl rfl rfl (v_assign rfl) ?_
       refine wl_nil ?_
       refine wc_ret ?_
       first
         | exact ⟨_, res1 rfl rfl, by rw [lookGo, if_pos (by omega)], H4.pm (by repeat constructor)⟩
         | exact ⟨_, res1 rfl rfl, by rw [lookGo, if_neg (by omega), if_pos (by omega)], H4.pm (by repeat constructor)⟩
         | exact ⟨_, res1 rfl rfl, by rw [lookGo, if_neg (by omega), if_neg (by omega)], H4.pm (by repeat constructor)⟩
    ·have g21p := of_decide_eq_true g21
     refine wl_off rfl rfl g21 rfl ?_
     refine wl_off rfl rfl g21 rfl ?_
     refine wl_off rfl rfl g21 rfl ?_
     refine wl_v rfl rfl rfl (v_pick_t rfl g21 rfl) ?_
     refine wl_nil ?_
     refine wc_cond_t rfl ?_
     refine wc_seq ?_
     refine wc_region ?_
     refine wl_v rfl rfl rfl (v_assign rfl) ?_
     refine wl_nil ?_
     refine wc_ret ?_
     first
       | exact ⟨_, res1 rfl rfl, by rw [lookGo, if_pos (by omega)], H2.pm (by repeat constructor)⟩
       | exact ⟨_, res1 rfl rfl, by rw [lookGo, if_neg (by omega), if_pos (by omega)], H2.pm (by repeat constructor)⟩
       | exact ⟨_, res1 rfl rfl, by rw [lookGo, if_neg (by omega), if_neg (by omega)], H2.pm (by repeat constructor)⟩
   ·have g17p := of_decide_eq_true g17
    refine wl_off rfl rfl g17 rfl ?_
    refine wl_v rfl rfl rfl (v_pick_t rfl g17 rfl) ?_
    refine wl_v rfl rfl rfl (v_move rfl) ?_
    refine wl_off rfl rfl rfl rfl ?_
    refine wl_off rfl rfl rfl rfl ?_
    refine wl_off rfl rfl rfl rfl ?_
    refine wl_off rfl rfl rfl rfl ?_
    refine wl_v rfl rfl rfl (v_pick_t rfl rfl rfl) ?_
    refine wl_nil ?_
    refine wc_cond_t rfl ?_
    refine wc_seq ?_
    refine wc_region ?_
    refine wl_v rfl rfl rfl (v_assign rfl) ?_
    refine wl_nil ?_
    refine wc_ret ?_
    first
      | exact ⟨_, res1 rfl rfl, by rw [lookGo, if_pos (by omega)], H2.pm (by repeat constructor)⟩
      | exact ⟨_, res1 rfl rfl, by rw [lookGo, if_neg (by omega), if_pos (by omega)], H2.pm (by repeat constructor)⟩
      | exact ⟨_, res1 rfl rfl, by rw [lookGo, if_neg (by omega), if_neg (by omega)], H2.pm (by repeat constructor)⟩
  ·have g10p := of_decide_eq_true g10
   refine wl_off rfl rfl g10 rfl ?_
   refine wl_off rfl rfl g10 rfl ?_
   refine wl_off rfl rfl g10 rfl ?_
   refine wl_off rfl rfl g10 rfl ?_
   refine wl_v rfl rfl rfl (v_pick_t rfl g10 rfl) ?_
   refine wl_v rfl rfl rfl (v_move rfl) ?_
   refine wl_off rfl rfl rfl rfl ?_
   refine wl_off rfl rfl rfl rfl ?_
   refine wl_v rfl rfl rfl (v_pick_t rfl rfl rfl) ?_
   refine wl_v rfl rfl rfl (v_move rfl) ?_
   refine wl_off rfl rfl rfl rfl ?_
   refine wl_off rfl rfl rfl rfl ?_
   refine wl_off rfl rfl rfl rfl ?_
   refine wl_off rfl rfl rfl rfl ?_
   refine wl_v rfl rfl rfl (v_pick_t rfl rfl rfl) ?_
   refine wl_nil ?_
   refine wc_cond_t rfl ?_
   refine wc_seq ?_
   refine wc_region ?_
   refine wl_v rfl rfl rfl (v_assign rfl) ?_
   refine wl_nil ?_
   refine wc_ret ?_
   first
     | exact ⟨_, res1 rfl rfl, by rw [lookGo, if_pos (by omega)], H2.pm (by repeat constructor)⟩
     | exact ⟨_, res1 rfl rfl, by rw [lookGo, if_neg (by omega), if_pos (by omega)], H2.pm (by repeat constructor)⟩
     | exact ⟨_, res1 rfl rfl, by rw [lookGo, if_neg (by omega), if_neg (by omega)], H2.pm (by repeat constructor)⟩

set_option maxRecDepth 100000 in
theorem goto_calls {a : PkA} {p : Pk} {s k : Int} {w : World} (hp : p.rd w a) (hk : p.ok) (is : I64 s) (ik : I64 k) :
    Calls Try.prog 25 #[p.val a, .int .i64 s, .int .i64 k] w fun e w' => ∃ v, e = .returned v ∧ v = .int .i64 (lookGo p s k) ∧ Holds w [] w' := by
  have q1 := hk.d
  have q2 := hk.b
  have q3 := hk.c
  have q4 := hk.e
  have q5 := hk.gb
  have q6 := hk.gc
  have q7 := hk.ge
  unfold I64 at is ik
  refine calls_of Try.func25 rfl Try.ntmps25 rfl ?_
  have H := Holds.start w
  refine wc_seq ?_
  refine wc_region ?_
  refine wl_box (cs := [_, _, _, _, _, _, _, _, _]) H rfl rfl rfl ?_
  intro b3 w1 hb3 H2
  refine wl_v rfl rfl rfl (v_assign rfl) ?_
  refine wl_nil ?_
  refine wc_seq ?_
  refine wc_seq ?_
  refine wc_region ?_
  refine wl_v rfl rfl rfl (v_move rfl) ?_
  refine wl_v rfl rfl rfl (v_lss rfl rfl) ?_
  refine wl_v rfl rfl rfl (v_move rfl) ?_
  refine wl_guard rfl rfl rfl (fun g10 => ?_) (fun g10 => ?_)
  ·have g10p := of_decide_eq_false g10
   refine wl_v rfl rfl rfl (v_move rfl) ?_
   refine wl_on' rfl rfl g10 ?_
   refine wl_v rfl rfl rfl (v_fb (o2 := 2) fa41_2 rfl rfl) ?_
   refine wl_on' rfl rfl g10 ?_
   refine wl_v rfl rfl rfl (v_load one38 rfl (H2.at (by repeat constructor) rfl)) ?_
   refine wl_on' rfl rfl g10 ?_
   refine wl_v rfl rfl rfl (v_len Try.underlying38 rfl) ?_
   refine wl_on' rfl rfl g10 ?_
   refine wl_v rfl rfl rfl (v_geq rfl rfl) ?_
   refine wl_v rfl rfl rfl (v_pick_f rfl g10 rfl) ?_
   refine wl_v rfl rfl rfl (v_move rfl) ?_
   refine wl_guard rfl rfl rfl (fun g17 => ?_) (fun g17 => ?_)
   ·have g17p := of_decide_eq_false g17
    refine wl_v rfl rfl rfl (v_move rfl) ?_
    refine wl_on' rfl rfl g17 ?_
    refine wl_v rfl rfl rfl (v_lss rfl rfl) ?_
    refine wl_v rfl rfl rfl (v_pick_f rfl g17 rfl) ?_
    refine wl_v rfl rfl rfl (v_move rfl) ?_
    refine wl_guard rfl rfl rfl (fun g21 => ?_) (fun g21 => ?_)
    ·have g21p := of_decide_eq_false g21
     refine wl_v rfl rfl rfl (v_move rfl) ?_
     refine wl_on' rfl rfl g21 ?_
     refine wl_v rfl rfl rfl (v_fb (o2 := 1) fa41_1 rfl rfl) ?_
     refine wl_on' rfl rfl g21 ?_
     refine wl_v rfl rfl rfl (v_load one3 rfl (H2.at (by repeat constructor) rfl)) ?_
     refine wl_on' rfl rfl g21 ?_
     refine wl_v rfl rfl rfl (v_geq rfl rfl) ?_
     refine wl_v rfl rfl rfl (v_pick_f rfl g21 rfl) ?_
     refine wl_nil ?_
     refine wc_cond rfl (fun c0 => ?_) (fun c0 => ?_)
     ·have c0p := of_decide_eq_true c0
      refine wc_seq ?_
      refine wc_region ?_
      refine wl_v rfl rfl rfl (v_assign rfl) ?_
      refine wl_nil ?_
      refine wc_ret ?_
      first
        | exact ⟨_, res1 rfl rfl, by rw [lookGo, if_pos (by omega)], H2.pm (by repeat constructor)⟩
        | exact ⟨_, res1 rfl rfl, by rw [lookGo, if_neg (by omega), if_pos (by omega)], H2.pm (by repeat constructor)⟩
        | exact ⟨_, res1 rfl rfl, by rw [lookGo, if_neg (by omega), if_neg (by omega)], H2.pm (by repeat constructor)⟩
     ·have c0p := of_decide_eq_false c0
      refine wc_skip ?_
      refine wc_seq ?_
      refine wc_seq ?_
      refine wc_region ?_
      refine wl_v rfl rfl rfl (v_fb (o2 := 6) fa41_6 rfl rfl) ?_
      refine wl_v rfl rfl rfl (v_load one39 rfl (H2.at (by repeat constructor) rfl)) ?_
      refine wl_v rfl rfl rfl (v_fb (o2 := 7) fa41_7 rfl rfl) ?_
      refine wl_v rfl rfl rfl (v_load one39 rfl (H2.at (by repeat constructor) rfl)) ?_
      refine wl_v rfl rfl rfl (v_fb (o2 := 8) fa41_8 rfl rfl) ?_
      refine wl_v rfl rfl rfl (v_load one39 rfl (H2.at (by repeat constructor) rfl)) ?_
      refine wl_v rfl rfl rfl (v_len Try.underlying39 rfl) ?_
      refine wl_v rfl rfl rfl (v_move rfl) ?_
      refine wl_v rfl rfl rfl (v_move rfl) ?_
      refine wl_call en50 rfl rfl (cell_calls (hp.gb.below H2.old) (hp.gc.below H2.old) hk.gb hk.gc hk.igb (by omega) (by omega) (by omega)) ?_
      rintro _ w3 ⟨rfl, Hc⟩
      have H4 := H2.call Hc
      have hlt := cellF_lt (base := p.gbase) (check := p.gcheck) (cells := p.gcell.length) (s := s) (k := k)
      refine wl_v rfl rfl rfl (v_assign rfl) ?_
      refine wl_nil ?_
      refine wc_seq ?_
      refine wc_region ?_
      refine wl_v rfl rfl rfl (v_move rfl) ?_
      refine wl_v rfl rfl rfl (v_geq rfl rfl) ?_
      refine wl_nil ?_
      refine wc_cond rfl (fun c1 => ?_) (fun c1 => ?_)
      ·have c1p := of_decide_eq_true c1
       refine wc_seq ?_
       refine wc_region ?_
       refine wl_v rfl rfl rfl (v_fb (o2 := 8) fa41_8 rfl rfl) ?_
       refine wl_v rfl rfl rfl (v_load one39 rfl (H4.at (by repeat constructor) rfl)) ?_
       refine wl_v rfl rfl rfl (v_move rfl) ?_
       refine wl_v rfl rfl rfl (v_idx Try.underlying39 sz3 hp.ge.ad rfl rfl (by omega) (by omega)) ?_
       refine wl_v rfl rfl rfl (v_load one3 rfl (H4.cell (hp.ge.at1 (by omega) (by omega)))) ?_
       refine wl_v rfl rfl rfl (v_assign rfl) ?_
       refine wl_nil ?_
       refine wc_ret ?_
       first
         | exact ⟨_, res1 rfl rfl, by rw [lookGo, if_pos (by omega)], H4.pm (by repeat constructor)⟩
         | exact ⟨_, res1 rfl rfl, by rw [lookGo, if_neg (by omega), if_pos (by omega)], H4.pm (by repeat constructor)⟩
         | exact ⟨_, res1 rfl rfl, by rw [lookGo, if_neg (by omega), if_neg (by omega)], H4.pm (by repeat constructor)⟩
      ·have c1p := of_decide_eq_false c1
       refine wc_skip ?_
       refine wc_seq ?_
       refine wc_region ?_
       refine wl_v rfl rfl rfl (v_assign rfl) ?_
       refine wl_nil ?_
       refine wc_ret ?_
       first
         | exact ⟨_, res1 rfl rfl, by rw [lookGo, if_pos (by omega)], H4.pm (by repeat constructor)⟩
         | exact ⟨_, res1 rfl rfl, by rw [lookGo, if_neg (by omega), if_pos (by omega)], H4.pm (by repeat constructor)⟩
         | exact ⟨_, res1 rfl rfl, by rw [lookGo, if_neg (by omega), if_neg (by omega)], H4.pm (by repeat constructor)⟩
    ·have g21p := of_decide_eq_true g21
     refine wl_off rfl rfl g21 rfl ?_
     refine wl_off rfl rfl g21 rfl ?_
     refine wl_off rfl rfl g21 rfl ?_
     refine wl_v rfl rfl rfl (v_pick_t rfl g21 rfl) ?_
     refine wl_nil ?_
     refine wc_cond_t rfl ?_
     refine wc_seq ?_
     refine wc_region ?_
     refine wl_v rfl rfl rfl (v_assign rfl) ?_
     refine wl_nil ?_
     refine wc_ret ?_
     first
       | exact ⟨_, res1 rfl rfl, by rw [lookGo, if_pos (by omega)], H2.pm (by repeat constructor)⟩
       | exact ⟨_, res1 rfl rfl, by rw [lookGo, if_neg (by omega), if_pos (by omega)], H2.pm (by repeat constructor)⟩
       | exact ⟨_, res1 rfl rfl, by rw [lookGo, if_neg (by omega), if_neg (by omega)], H2.pm (by repeat constructor)⟩
   ·have g17p := of_decide_eq_true g17
    refine wl_off rfl rfl g17 rfl ?_
    refine wl_v rfl rfl rfl (v_pick_t rfl g17 rfl) ?_
    refine wl_v rfl rfl rfl (v_move rfl) ?_
    refine wl_off rfl rfl rfl rfl ?_
    refine wl_off rfl rfl rfl rfl ?_
    refine wl_off rfl rfl rfl rfl ?_
    refine wl_off rfl rfl rfl rfl ?_
    refine wl_v rfl rfl rfl (v_pick_t rfl rfl rfl) ?_
    refine wl_nil ?_
    refine wc_cond_t rfl ?_
    refine wc_seq ?_
    refine wc_region ?_
    refine wl_v rfl rfl rfl (v_assign rfl) ?_
    refine wl_nil ?_
    refine wc_ret ?_
    first
      | exact ⟨_, res1 rfl rfl, by rw [lookGo, if_pos (by omega)], H2.pm (by repeat constructor)⟩
      | exact ⟨_, res1 rfl rfl, by rw [lookGo, if_neg (by omega), if_pos (by omega)], H2.pm (by repeat constructor)⟩
      | exact ⟨_, res1 rfl rfl, by rw [lookGo, if_neg (by omega), if_neg (by omega)], H2.pm (by repeat constructor)⟩
  ·have g10p := of_decide_eq_true g10
   refine wl_off rfl rfl g10 rfl ?_
   refine wl_off rfl rfl g10 rfl ?_
   refine wl_off rfl rfl g10 rfl ?_
   refine wl_off rfl rfl g10 rfl ?_
   refine wl_v rfl rfl rfl (v_pick_t rfl g10 rfl) ?_
   refine wl_v rfl rfl rfl (v_move rfl) ?_
   refine wl_off rfl rfl rfl rfl ?_
   refine wl_off rfl rfl rfl rfl ?_
   refine wl_v rfl rfl rfl (v_pick_t rfl rfl rfl) ?_
   refine wl_v rfl rfl rfl (v_move rfl) ?_
   refine wl_off rfl rfl rfl rfl ?_
   refine wl_off rfl rfl rfl rfl ?_
   refine wl_off rfl rfl rfl rfl ?_
   refine wl_off rfl rfl rfl rfl ?_
   refine wl_v rfl rfl rfl (v_pick_t rfl rfl rfl) ?_
   refine wl_nil ?_
   refine wc_cond_t rfl ?_
   refine wc_seq ?_
   refine wc_region ?_
   refine wl_v rfl rfl rfl (v_assign rfl) ?_
   refine wl_nil ?_
   refine wc_ret ?_
   first
     | exact ⟨_, res1 rfl rfl, by rw [lookGo, if_pos (by omega)], H2.pm (by repeat constructor)⟩
     | exact ⟨_, res1 rfl rfl, by rw [lookGo, if_neg (by omega), if_pos (by omega)], H2.pm (by repeat constructor)⟩
     | exact ⟨_, res1 rfl rfl, by rw [lookGo, if_neg (by omega), if_neg (by omega)], H2.pm (by repeat constructor)⟩
end Go.Proofs.Ytkpehkadammppaa.Look

/-! A table of one state has a default. -/
namespace Go.Proofs.Ytkpehkadammppaa.AliveW
open Go Go.RowKit Go.Proofs.YtkpehkadammppaaFx Go.Proofs.Ytkpehkadammppaa.DfltW Go.Proofs.Ytkpehkadammppaa.Chk Go.Proofs.Ytkpehkadammppaa.PackW Go.Proofs.Ytkpehkadammppaa.SortT Go.Proofs.Ytkpehkadammppaa.Look
theorem agg25 : Agg Try.prog 25 2 := agg_of Try.underlying25 (by kernel_rfl)
theorem agg41 : Agg Try.prog 41 9 := agg_of Try.underlying41 (by kernel_rfl)
theorem agg48 : Agg Try.prog 48 2 := agg_of Try.underlying48 (by kernel_rfl)
theorem ba25 : BuildAt Try.prog 25 [.slice none 0 0, .slice none 0 0] [(0, 1), (1, 1)] := build_at Try.underlying25 (by kernel_rfl) (by kernel_rfl)
theorem ba48 : BuildAt Try.prog 48 [.int .i64 0, .int .i64 0] [(0, 1), (1, 1)] := build_at Try.underlying48 (by kernel_rfl) (by kernel_rfl)
theorem en10 : Enters Try.prog 10 := enters Try.func10 (by kernel_rfl) rfl
theorem en12 : Enters Try.prog 12 := enters Try.func12 (by kernel_rfl) rfl
theorem en16 : Enters Try.prog 16 := enters Try.func16 (by kernel_rfl) rfl
theorem en23 : Enters Try.prog 23 := enters Try.func23 (by kernel_rfl) rfl
theorem en25 : Enters Try.prog 25 := enters Try.func25 (by kernel_rfl) rfl
theorem eqm48 : EqlMv Try.prog 48 := eql_mv (e := 3) Try.underlying48 (by kernel_rfl) (by kernel_rfl) Try.underlying3 rfl rfl
theorem fa25_0 : FieldAt Try.prog 25 0 0 := field_at (sz := 0) Try.underlying25 rfl (by kernel_rfl) rfl
theorem mixed : Try.prog.follows .mixedOrders = true := by kernel_rfl
theorem one22 : One Try.prog 22 := one_of Try.underlying22 rfl (by kernel_rfl)
theorem one38 : One Try.prog 38 := one_of Try.underlying38 rfl (by kernel_rfl)
theorem sz25 : ∀ W, (sizeOf 25).run Try.prog W = .ok 2 W := size_of (by kernel_rfl)
theorem sz3 : ∀ W, (sizeOf 3).run Try.prog W = .ok 1 W := size_of (by kernel_rfl)
theorem sz38 : ∀ W, (sizeOf 38).run Try.prog W = .ok 1 W := size_of (by kernel_rfl)
theorem sz39 : ∀ W, (sizeOf 39).run Try.prog W = .ok 1 W := size_of (by kernel_rfl)
theorem sz41 : ∀ W, (sizeOf 41).run Try.prog W = .ok 9 W := size_of (by kernel_rfl)
theorem sz48 : ∀ W, (sizeOf 48).run Try.prog W = .ok 2 W := size_of (by kernel_rfl)
theorem zv25 : ∀ W, (zeroValue 25).run Try.prog W = .ok (.agg #[.slice none 0 0, .slice none 0 0]) W := zero_of (by kernel_rfl)
theorem zv3 : ∀ W, (zeroValue 3).run Try.prog W = .ok (.int .i64 0) W := zero_of (by kernel_rfl)
theorem zv38 : ∀ W, (zeroValue 38).run Try.prog W = .ok (.slice none 0 0) W := zero_of (by kernel_rfl)
theorem zv39 : ∀ W, (zeroValue 39).run Try.prog W = .ok (.slice none 0 0) W := zero_of (by kernel_rfl)
theorem zv41 : ∀ W, (zeroValue 41).run Try.prog W = .ok (.agg #[.int .i64 0, .int .i64 0, .slice none 0 0, .slice none 0 0, .slice none 0 0, .slice none 0 0, .slice none 0 0, .slice none 0 0, .slice none 0 0]) W := zero_of (by kernel_rfl)
theorem zv48 : ∀ W, (zeroValue 48).run Try.prog W = .ok (.agg #[.int .i64 0, .int .i64 0]) W := zero_of (by kernel_rfl)

theorem sortOk_tiny {rows : List (List Int)} (h : rows.length ≤ 1) : SortOk Try.prog rows (iota rows.length) where
  len := by simp [iota]
  nd := by
    unfold iota
    rcases (by omega : rows.length = 0 ∨ rows.length = 1) with e | e <;> rw [e] <;> simp [List.range_succ]
  lt := fun x hx => by
    unfold iota at hx
    obtain ⟨j, hj, rfl⟩ := List.mem_map.1 hx
    rw [List.mem_range] at hj
    omega
  run := fun w W A A15 ca b2 b6 hr HW => by
    refine (sort_tiny (A := A15) (m := rows.length) (c := rows.length) (g := 57) (cap := #[.pointer (some ⟨b2, 0, none⟩), .pointer (some ⟨b6, 0, none⟩)]) (w := W) h).mono ?_
    rintro e w' ⟨v, rfl, rfl, Hc⟩
    exact ⟨_, rfl, rfl, HW.call0 Hc⟩
theorem aT_sort : SortOk Try.prog (aT.mv.map pkRow) [0] ∧ SortOk Try.prog (aT.go.map goRow) [0] := ⟨sortOk_tiny (rows := aT.mv.map pkRow) (by decide), sortOk_tiny (rows := aT.go.map goRow) (by decide)⟩
theorem alive_pack {w : World} {A B : Option Addr} (hx : aT.rd w A B) : Calls Try.prog 16 #[.agg #[.slice A 1 1, .slice B 1 1], .int .i64 3, .int .i64 1, .int .i64 1] w fun e w' => ∃ v, e = .returned v ∧ ∃ (p : Pk) (a : PkA), p.ok ∧ lookMv p 0 2 = ⟨2, 0⟩ ∧ lookGo p 0 0 = 0 ∧ v = .tuple #[.agg #[.int .i64 p.kinds, .int .i64 p.rules, .slice a.d p.dflt.length a.kd, .slice a.b p.base.length a.kb, .slice a.c p.check.length a.kc, .slice a.e p.cell.length a.ke, .slice a.gb p.gbase.length a.kgb, .slice a.gc p.gcheck.length a.kgc, .slice a.ge p.gcell.length a.kge], .int .i64 0] ∧ Holds w (OwnP a p) w' := by
  have h := pack_calls (ca := 1) (cb := 1) (k := 3) (r := 1) (p := 1) [0] [0] hx aT_ok (fun _ => by decide) (fun _ => aT_sort)
  rw [aP_is, aT_check] at h
  refine h.mono ?_
  rintro e w' ⟨v, he, a, hv, H⟩
  exact ⟨v, he, aP, a, aP_ok, aP_mv, aP_go, hv, H⟩
theorem alive_dflt {w : World} {A B : Option Addr} (hx : aT.rd w A B) : Calls Try.prog 10 #[.agg #[.slice A 1 1, .slice B 1 1]] w fun e w' => ∃ v, e = .returned v ∧ ∃ v1 v2 g, v = .tuple #[.agg #[v1, v2], .int .i64 0] ∧ Holds w [RR fMv 38 48 v1 [[⟨2, 0⟩, ⟨2, 0⟩, ⟨2, 0⟩]], RR (fInt .i64) 39 3 v2 g] w' := by
  have h := defaults_calls (ca := 1) (cb := 1) hx aT_ok
  rw [aT_df.1, aT_df.2] at h
  refine h.mono ?_
  rintro e w' ⟨v, he, v1, v2, hv, H⟩
  exact ⟨v, he, v1, v2, aD.go, hv, H⟩
theorem alive_check {w : World} {A B : Option Addr} (hx : aT.rd w A B) : Calls Try.prog 12 #[.agg #[.slice A 1 1, .slice B 1 1], .int .i64 3, .int .i64 1, .int .i64 1] w fun e w' => ∃ v, e = .returned v ∧ v = .int .i64 0 ∧ Holds w [] w' := by
  have h := check_calls (ca := 1) (cb := 1) (k := 3) (r := 1) (p := 1) hx aT_ok
  rw [aT_check] at h
  exact h
theorem alive_move {p : Pk} {a : PkA} {w : World} (hp : p.rd w a) (hk : p.ok) (h : lookMv p 0 2 = ⟨2, 0⟩) : Calls Try.prog 23 #[p.val a, .int .i64 0, .int .i64 2] w fun e w' => ∃ v, e = .returned v ∧ v = .agg #[.int .i64 2, .int .i64 0] ∧ Holds w [] w' := by
  have h1 := move2_calls (s := 0) (k := 2) hp hk (by unfold I64; decide) (by unfold I64; decide)
  rw [h] at h1
  exact h1
theorem alive_goto {p : Pk} {a : PkA} {w : World} (hp : p.rd w a) (hk : p.ok) (h : lookGo p 0 0 = 0) : Calls Try.prog 25 #[p.val a, .int .i64 0, .int .i64 0] w fun e w' => ∃ v, e = .returned v ∧ v = .int .i64 0 ∧ Holds w [] w' := by
  have h1 := goto_calls (s := 0) (k := 0) hp hk (by unfold I64; decide) (by unfold I64; decide)
  rw [h] at h1
  exact h1

set_option maxHeartbeats 1600000 in
set_option maxRecDepth 100000 in
theorem alive_calls {w : World} : Calls Try.prog 15 #[] w fun e w' => ∃ v, e = .returned v ∧ v = .bool true ∧ Holds w [] w' := by
  refine calls_of Try.func15 rfl Try.ntmps15 rfl ?_
  have H := Holds.start w
  refine wc_seq ?_
  refine wc_region ?_
  refine wl_v rfl rfl rfl (v_assign rfl) ?_
  refine wl_nil ?_
  refine wc_seq ?_
  refine wc_region ?_
  refine wl_v rfl rfl rfl (v_bld ba48 rfl (by repeat constructor)) ?_
  refine wl_alloc (cs := [.int .i64 0, .int .i64 0]) H rfl zv48 rfl ?_
  intro b1 w1 hb1 H2
  refine wl_store (vs := [_, _]) H2 (by repeat constructor) sz48 rfl rfl rfl rfl rfl (by (repeat constructor)) ?_
  intro w3 H4 hw3
  refine wl_nil ?_
  refine wc_seq ?_
  refine wc_region ?_
  refine wl_v rfl rfl rfl (v_loadN agg48 rfl rfl (H4.ats (by repeat constructor))) ?_
  refine wl_v rfl rfl rfl (v_bld ba48 rfl (by repeat constructor)) ?_
  refine wl_v rfl rfl rfl (v_loadN agg48 rfl rfl (H4.ats (by repeat constructor))) ?_
  refine wl_slit (v := .agg #[.int .i64 0, .int .i64 0]) (z := [.int .i64 0, .int .i64 0, .int .i64 0, .int .i64 0, .int .i64 0, .int .i64 0]) (cs := [.int .i64 2, .int .i64 0, .int .i64 0, .int .i64 0, .int .i64 2, .int .i64 0]) (sz := 2) H4 rfl Try.underlying38 sz48 zv48 (by decide) (by decide) (by kernel_rfl) rfl (by repeat constructor) ?_
  intro b11 w5 hb11 H5 hs5
  refine wl_slit (v := .slice none 0 0) (z := [.slice none 0 0]) (cs := [.slice (some ⟨b11, 0, none⟩) 3 3]) (sz := 1) H5 rfl Try.underlying22 sz38 zv38 (by decide) (by decide) (by kernel_rfl) rfl (by repeat constructor) ?_
  intro b12 w6 hb12 H6 hs6
  refine wl_slit (v := .int .i64 0) (z := [.int .i64 0]) (cs := [.int .i64 0]) (sz := 1) H6 rfl Try.underlying39 sz3 zv3 (by decide) (by decide) (by kernel_rfl) rfl (by repeat constructor) ?_
  intro b13 w7 hb13 H7 hs7
  refine wl_slit (v := .slice none 0 0) (z := [.slice none 0 0]) (cs := [.slice (some ⟨b13, 0, none⟩) 1 1]) (sz := 1) H7 rfl Try.underlying23 sz39 zv39 (by decide) (by decide) (by kernel_rfl) rfl (by repeat constructor) ?_
  intro b14 w8 hb14 H8 hs8
  refine wl_v rfl rfl rfl (v_bld ba25 rfl (by repeat constructor)) ?_
  refine wl_alloc (cs := [.slice none 0 0, .slice none 0 0]) H8 rfl zv25 rfl ?_
  intro b2 w9 hb2 H10
  refine wl_store (vs := [_, _]) H10 (by repeat constructor) sz25 rfl rfl rfl rfl rfl (by (repeat constructor)) ?_
  intro w11 H12 hw11
  refine wl_nil ?_
  refine wc_seq ?_
  refine wc_region ?_
  refine wl_v rfl rfl rfl (v_loadN agg25 rfl rfl (H12.ats (by repeat constructor))) ?_
  refine wl_call en10 rfl rfl (alive_dflt (aT_rd (H12.pm (by repeat constructor)))) ?_
  rintro _ w13 ⟨v1, v2, g, rfl, Hc⟩
  have H14 := H12.call Hc
  obtain ⟨A2, c2, rfl, _⟩ := H14.rr (f := fInt .i64) (e := 39) (e2 := 3) (v := v2) (xss := g) (by repeat constructor)
  obtain ⟨A1, c1, B1, k1, rfl, hA1, Hq⟩ := (H14.turn (A := RR fMv 38 48 v1 [[⟨2, 0⟩, ⟨2, 0⟩, ⟨2, 0⟩]]) (by repeat constructor)).rr1
  have hB1 : 0 < 3 → B1 = some (adr B1) := (Hq.rrd (f := fMv) (e := 48) (A := B1) (xs := [⟨2, 0⟩, ⟨2, 0⟩, ⟨2, 0⟩]) (by repeat constructor)).ad
  refine wl_v rfl rfl rfl (v_move rfl) ?_
  refine wl_v rfl rfl rfl (v_extract rfl rfl) ?_
  refine wl_v rfl rfl rfl (v_extract rfl rfl) ?_
  refine wl_alloc (cs := [.slice none 0 0, .slice none 0 0]) Hq rfl zv25 rfl ?_
  intro b3 w15 hb3 H16
  refine wl_store (vs := [_, _]) H16 (by repeat constructor) sz25 rfl rfl rfl rfl rfl (by (repeat constructor)) ?_
  intro w17 H18 hw17
  refine wl_v rfl rfl rfl (v_assign rfl) ?_
  refine wl_nil ?_
  refine wc_seq ?_
  refine wc_region ?_
  refine wl_v rfl rfl rfl (v_loadN agg25 rfl rfl (H18.ats (by repeat constructor))) ?_
  refine wl_call en16 rfl rfl (alive_pack (aT_rd (H18.pm (by repeat constructor)))) ?_
  rintro _ w19 ⟨p, a, hpk, hmv, hgo, rfl, Hc⟩
  have H20 := H18.call Hc
  refine wl_v rfl rfl rfl (v_move rfl) ?_
  refine wl_v rfl rfl rfl (v_extract rfl rfl) ?_
  refine wl_v rfl rfl rfl (v_extract rfl rfl) ?_
  refine wl_alloc (cs := [.int .i64 0, .int .i64 0, .slice none 0 0, .slice none 0 0, .slice none 0 0, .slice none 0 0, .slice none 0 0, .slice none 0 0, .slice none 0 0]) H20 rfl zv41 rfl ?_
  intro b5 w21 hb5 H22
  refine wl_store (vs := [_, _, _, _, _, _, _, _, _]) H22 (by repeat constructor) sz41 rfl rfl rfl rfl rfl (by (repeat constructor)) ?_
  intro w23 H24 hw23
  refine wl_v rfl rfl rfl (v_assign rfl) ?_
  refine wl_nil ?_
  refine wc_seq ?_
  refine wc_tree [0, 1, 2, 3, 4, 5, 6, 7, 8, 9, 10, 11, 12, 13, 14, 15, 16, 17, 18, 19, 20, 21, 22, 23, 24, 25, 26, 27, 28, 29, 30, 31, 33, 34, 35, 36, 37, 39, 40, 41, 42, 44, 45, 46] (fun W => Holds w [Blk b5 41 [.int .i64 p.kinds, .int .i64 p.rules, .slice a.d p.dflt.length a.kd, .slice a.b p.base.length a.kb, .slice a.c p.check.length a.kc, .slice a.e p.cell.length a.ke, .slice a.gb p.gbase.length a.kgb, .slice a.gc p.gcheck.length a.kgc, .slice a.ge p.gcell.length a.kge], Row fMv 48 (.slice a.d p.dflt.length a.kd) p.dflt, Row (fInt .i64) 3 (.slice a.b p.base.length a.kb) p.base, Row (fInt .i64) 3 (.slice a.c p.check.length a.kc) p.check, Row fMv 48 (.slice a.e p.cell.length a.ke) p.cell, Row (fInt .i64) 3 (.slice a.gb p.gbase.length a.kgb) p.gbase, Row (fInt .i64) 3 (.slice a.gc p.gcheck.length a.kgc) p.gcheck, Row (fInt .i64) 3 (.slice a.ge p.gcell.length a.kge) p.gcell, Blk b3 25 [.slice A1 1 c1, .slice A2 g.length c2], Raw 38 1 (.slice A1 1 c1) 1 [.slice B1 3 k1], Row fMv 48 (.slice B1 3 k1) [⟨2, 0⟩, ⟨2, 0⟩, ⟨2, 0⟩], Blk b2 25 [.slice (some ⟨b12, 0, none⟩) 1 1, .slice (some ⟨b14, 0, none⟩) 1 1], Blk b12 38 [.slice (some ⟨b11, 0, none⟩) 3 3], Blk b11 48 [.int .i64 2, .int .i64 0, .int .i64 0, .int .i64 0, .int .i64 2, .int .i64 0], Blk b14 39 [.slice (some ⟨b13, 0, none⟩) 1 1], Blk b13 3 [.int .i64 0], Blk b1 48 [.int .i64 2, .int .i64 0]] W) mixed ?_
  have Hd := H24.drew
  have HSd : Holds w [Blk b5 41 [.int .i64 p.kinds, .int .i64 p.rules, .slice a.d p.dflt.length a.kd, .slice a.b p.base.length a.kb, .slice a.c p.check.length a.kc, .slice a.e p.cell.length a.ke, .slice a.gb p.gbase.length a.kgb, .slice a.gc p.gcheck.length a.kgc, .slice a.ge p.gcell.length a.kge], Row fMv 48 (.slice a.d p.dflt.length a.kd) p.dflt, Row (fInt .i64) 3 (.slice a.b p.base.length a.kb) p.base, Row (fInt .i64) 3 (.slice a.c p.check.length a.kc) p.check, Row fMv 48 (.slice a.e p.cell.length a.ke) p.cell, Row (fInt .i64) 3 (.slice a.gb p.gbase.length a.kgb) p.gbase, Row (fInt .i64) 3 (.slice a.gc p.gcheck.length a.kgc) p.gcheck, Row (fInt .i64) 3 (.slice a.ge p.gcell.length a.kge) p.gcell, Blk b3 25 [.slice A1 1 c1, .slice A2 g.length c2], Raw 38 1 (.slice A1 1 c1) 1 [.slice B1 3 k1], Row fMv 48 (.slice B1 3 k1) [⟨2, 0⟩, ⟨2, 0⟩, ⟨2, 0⟩], Blk b2 25 [.slice (some ⟨b12, 0, none⟩) 1 1, .slice (some ⟨b14, 0, none⟩) 1 1], Blk b12 38 [.slice (some ⟨b11, 0, none⟩) 3 3], Blk b11 48 [.int .i64 2, .int .i64 0, .int .i64 0, .int .i64 0, .int .i64 2, .int .i64 0], Blk b14 39 [.slice (some ⟨b13, 0, none⟩) 1 1], Blk b13 3 [.int .i64 0], Blk b1 48 [.int .i64 2, .int .i64 0]] _ := Hd.pm (by repeat constructor)
  refine wj_v (k := 0) rfl (by kernel_rfl) (fun _ _ _ h => h) HSd rfl rfl rfl (fun W HW => v_move rfl) ?_
  refine wj_v (k := 1) rfl (by kernel_rfl) (fun _ _ _ h => h) HSd rfl rfl rfl (fun W HW => v_eql rfl rfl) ?_
  refine wj_v (k := 2) rfl (by kernel_rfl) (fun _ _ _ h => h) HSd rfl rfl rfl (fun W HW => v_move rfl) ?_
  refine wj_guard (dj := 28) rfl (fun g28 => ?_) (fun g28 => ?_)
  ·have g28p := of_decide_eq_true g28
   refine wj_vg (k := 3) rfl (by kernel_rfl) (fun _ _ _ h => h) rfl rfl g28 HSd rfl (fun W HW => v_move rfl) ?_
   refine wj_vg (k := 4) rfl (by kernel_rfl) (fun _ _ _ h => h) rfl rfl g28 HSd rfl (fun W HW => v_eql rfl rfl) ?_
   refine wj_v (k := 5) rfl (by kernel_rfl) (fun _ _ _ h => h) HSd rfl rfl rfl (fun W HW => v_pick_t rfl g28 rfl) ?_
   refine wj_v (k := 6) rfl (by kernel_rfl) (fun _ _ _ h => h) HSd rfl rfl rfl (fun W HW => v_move rfl) ?_
   refine wj_guard (dj := 32) rfl (fun g32 => ?_) (fun g32 => ?_)
   ·have g32p := of_decide_eq_true g32
    refine wj_vg (k := 7) rfl (by kernel_rfl) (fun _ _ _ h => h) rfl rfl g32 HSd rfl (fun W HW => v_fb (o2 := 0) fa25_0 rfl rfl) ?_
    refine wj_vg (k := 8) rfl (by kernel_rfl) (fun _ _ _ h => h) rfl rfl g32 HSd rfl (fun W HW => v_load one22 rfl (HW.at (by repeat constructor) rfl)) ?_
    refine wj_vg (k := 9) rfl (by kernel_rfl) (fun _ _ _ h => h) rfl rfl g32 HSd rfl (fun W HW => v_len Try.underlying22 rfl) ?_
    refine wj_vg (k := 10) rfl (by kernel_rfl) (fun _ _ _ h => h) rfl rfl g32 HSd rfl (fun W HW => v_eql rfl rfl) ?_
    refine wj_v (k := 11) rfl (by kernel_rfl) (fun _ _ _ h => h) HSd rfl rfl rfl (fun W HW => v_pick_t rfl g32 rfl) ?_
    refine wj_v (k := 12) rfl (by kernel_rfl) (fun _ _ _ h => h) HSd rfl rfl rfl (fun W HW => v_move rfl) ?_
    refine wj_guard (dj := 38) rfl (fun g38 => ?_) (fun g38 => ?_)
    ·have g38p := of_decide_eq_true g38
     refine wj_vg (k := 13) rfl (by kernel_rfl) (fun _ _ _ h => h) rfl rfl g38 HSd rfl (fun W HW => v_fb (o2 := 0) fa25_0 rfl rfl) ?_
     refine wj_vg (k := 14) rfl (by kernel_rfl) (fun _ _ _ h => h) rfl rfl g38 HSd rfl (fun W HW => v_load one22 rfl (HW.at (by repeat constructor) rfl)) ?_
     refine wj_vg (k := 15) rfl (by kernel_rfl) (fun _ _ _ h => h) rfl rfl g38 HSd rfl (fun W HW => v_idx Try.underlying22 sz38 hA1 rfl rfl (by omega) (by omega)) ?_
     refine wj_vg (k := 16) rfl (by kernel_rfl) (fun _ _ _ h => h) rfl rfl g38 HSd rfl (fun W HW => v_load one38 rfl (HW.rawAt (by repeat constructor) 0 _ rfl)) ?_
     refine wj_vg (k := 17) rfl (by kernel_rfl) (fun _ _ _ h => h) rfl rfl g38 HSd rfl (fun W HW => v_len Try.underlying38 rfl) ?_
     refine wj_vg (k := 18) rfl (by kernel_rfl) (fun _ _ _ h => h) rfl rfl g38 HSd rfl (fun W HW => v_eql rfl rfl) ?_
     refine wj_v (k := 19) rfl (by kernel_rfl) (fun _ _ _ h => h) HSd rfl rfl rfl (fun W HW => v_pick_t rfl g38 rfl) ?_
     refine wj_v (k := 20) rfl (by kernel_rfl) (fun _ _ _ h => h) HSd rfl rfl rfl (fun W HW => v_move rfl) ?_
     refine wj_guard (dj := 46) rfl (fun g46 => ?_) (fun g46 => ?_)
     ·have g46p := of_decide_eq_true g46
      refine wj_vg (k := 21) rfl (by kernel_rfl) (fun _ _ _ h => h) rfl rfl g46 HSd rfl (fun W HW => v_fb (o2 := 0) fa25_0 rfl rfl) ?_
      refine wj_vg (k := 22) rfl (by kernel_rfl) (fun _ _ _ h => h) rfl rfl g46 HSd rfl (fun W HW => v_load one22 rfl (HW.at (by repeat constructor) rfl)) ?_
      refine wj_vg (k := 23) rfl (by kernel_rfl) (fun _ _ _ h => h) rfl rfl g46 HSd rfl (fun W HW => v_idx Try.underlying22 sz38 hA1 rfl rfl (by omega) (by omega)) ?_
      refine wj_vg (k := 24) rfl (by kernel_rfl) (fun _ _ _ h => h) rfl rfl g46 HSd rfl (fun W HW => v_load one38 rfl (HW.rawAt (by repeat constructor) 0 _ rfl)) ?_
      refine wj_vg (k := 25) rfl (by kernel_rfl) (fun _ _ _ h => h) rfl rfl g46 HSd rfl (fun W HW => v_idx Try.underlying38 sz48 hB1 rfl rfl (by omega) (by omega)) ?_
      refine wj_vg (k := 26) rfl (by kernel_rfl) (fun _ _ _ h => h) rfl rfl g46 HSd rfl (fun W HW => v_loadN (cs := fMv.enc _) agg48 rfl rfl (fun k u hu => (HW.rrd (f := fMv) (e := 48) (A := B1) (xs := [⟨2, 0⟩, ⟨2, 0⟩, ⟨2, 0⟩]) (by repeat constructor)).atN (i := 1) (k := k) mv0 (by decide) hu)) ?_
      refine wj_vg (k := 27) rfl (by kernel_rfl) (fun _ _ _ h => h) rfl rfl g46 HSd rfl (fun W HW => v_loadN agg48 rfl rfl (HW.ats (by repeat constructor))) ?_
      refine wj_vg (k := 28) rfl (by kernel_rfl) (fun _ _ _ h => h) rfl rfl g46 HSd rfl (fun W HW => v_eqlm (b := ⟨2, 0⟩) eqm48 rfl rfl) ?_
      refine wj_v (k := 29) rfl (by kernel_rfl) (fun _ _ _ h => h) HSd rfl rfl rfl (fun W HW => v_pick_t rfl g46 rfl) ?_
      refine wj_v (k := 30) rfl (by kernel_rfl) (fun _ _ _ h => h) HSd rfl rfl rfl (fun W HW => v_move rfl) ?_
      refine wj_guard (dj := 56) rfl (fun g56 => ?_) (fun g56 => ?_)
      ·have g56p := of_decide_eq_true g56
       refine wj_vg (k := 31) rfl (by kernel_rfl) (fun _ _ _ h => h) rfl rfl g56 HSd rfl (fun W HW => v_loadN agg41 rfl rfl (HW.ats (by repeat constructor))) ?_
       refine wj_vg (k := 33) rfl (by kernel_rfl) (fun _ _ _ h => h) rfl rfl g56 HSd rfl (fun W HW => v_loadN agg48 rfl rfl (HW.ats (by repeat constructor))) ?_
       refine wj_t (k := 32) rfl (by kernel_rfl) ?_
       refine wl_on' rfl rfl g56 ?_
       refine wl_call en23 rfl rfl (alive_move (Hd.pm (L' := OwnP a p) (by repeat constructor)).pk hpk hmv) ?_
       rintro _ w25 ⟨rfl, Hc⟩
       have H26 := Hd.call Hc
       have HS27 : Holds w [Blk b5 41 [.int .i64 p.kinds, .int .i64 p.rules, .slice a.d p.dflt.length a.kd, .slice a.b p.base.length a.kb, .slice a.c p.check.length a.kc, .slice a.e p.cell.length a.ke, .slice a.gb p.gbase.length a.kgb, .slice a.gc p.gcheck.length a.kgc, .slice a.ge p.gcell.length a.kge], Row fMv 48 (.slice a.d p.dflt.length a.kd) p.dflt, Row (fInt .i64) 3 (.slice a.b p.base.length a.kb) p.base, Row (fInt .i64) 3 (.slice a.c p.check.length a.kc) p.check, Row fMv 48 (.slice a.e p.cell.length a.ke) p.cell, Row (fInt .i64) 3 (.slice a.gb p.gbase.length a.kgb) p.gbase, Row (fInt .i64) 3 (.slice a.gc p.gcheck.length a.kgc) p.gcheck, Row (fInt .i64) 3 (.slice a.ge p.gcell.length a.kge) p.gcell, Blk b3 25 [.slice A1 1 c1, .slice A2 g.length c2], Raw 38 1 (.slice A1 1 c1) 1 [.slice B1 3 k1], Row fMv 48 (.slice B1 3 k1) [⟨2, 0⟩, ⟨2, 0⟩, ⟨2, 0⟩], Blk b2 25 [.slice (some ⟨b12, 0, none⟩) 1 1, .slice (some ⟨b14, 0, none⟩) 1 1], Blk b12 38 [.slice (some ⟨b11, 0, none⟩) 3 3], Blk b11 48 [.int .i64 2, .int .i64 0, .int .i64 0, .int .i64 0, .int .i64 2, .int .i64 0], Blk b14 39 [.slice (some ⟨b13, 0, none⟩) 1 1], Blk b13 3 [.int .i64 0], Blk b1 48 [.int .i64 2, .int .i64 0]] _ := H26.pm (by repeat constructor)
       refine wl_nil (tn ⟨fun _ => HS27, ?_⟩)
       refine wj_vg (k := 34) rfl (by kernel_rfl) (fun _ _ _ h => h) rfl rfl g56 HS27 rfl (fun W HW => v_eqlm (a := ⟨2, 0⟩) (b := ⟨2, 0⟩) eqm48 rfl rfl) ?_
       refine wj_v (k := 35) rfl (by kernel_rfl) (fun _ _ _ h => h) HS27 rfl rfl rfl (fun W HW => v_pick_t rfl g56 rfl) ?_
       refine wj_v (k := 36) rfl (by kernel_rfl) (fun _ _ _ h => h) HS27 rfl rfl rfl (fun W HW => v_move rfl) ?_
       refine wj_guard (dj := 62) rfl (fun g62 => ?_) (fun g62 => ?_)
       ·have g62p := of_decide_eq_true g62
        refine wj_vg (k := 37) rfl (by kernel_rfl) (fun _ _ _ h => h) rfl rfl g62 HS27 rfl (fun W HW => v_loadN agg41 rfl rfl (HW.ats (by repeat constructor))) ?_
        refine wj_t (k := 38) rfl (by kernel_rfl) ?_
        refine wl_on' rfl rfl g62 ?_
        refine wl_call en25 rfl rfl (alive_goto (H26.pm (L' := OwnP a p) (by repeat constructor)).pk hpk hgo) ?_
        rintro _ w28 ⟨rfl, Hc⟩
        have H29 := H26.call Hc
        have HS30 : Holds w [Blk b5 41 [.int .i64 p.kinds, .int .i64 p.rules, .slice a.d p.dflt.length a.kd, .slice a.b p.base.length a.kb, .slice a.c p.check.length a.kc, .slice a.e p.cell.length a.ke, .slice a.gb p.gbase.length a.kgb, .slice a.gc p.gcheck.length a.kgc, .slice a.ge p.gcell.length a.kge], Row fMv 48 (.slice a.d p.dflt.length a.kd) p.dflt, Row (fInt .i64) 3 (.slice a.b p.base.length a.kb) p.base, Row (fInt .i64) 3 (.slice a.c p.check.length a.kc) p.check, Row fMv 48 (.slice a.e p.cell.length a.ke) p.cell, Row (fInt .i64) 3 (.slice a.gb p.gbase.length a.kgb) p.gbase, Row (fInt .i64) 3 (.slice a.gc p.gcheck.length a.kgc) p.gcheck, Row (fInt .i64) 3 (.slice a.ge p.gcell.length a.kge) p.gcell, Blk b3 25 [.slice A1 1 c1, .slice A2 g.length c2], Raw 38 1 (.slice A1 1 c1) 1 [.slice B1 3 k1], Row fMv 48 (.slice B1 3 k1) [⟨2, 0⟩, ⟨2, 0⟩, ⟨2, 0⟩], Blk b2 25 [.slice (some ⟨b12, 0, none⟩) 1 1, .slice (some ⟨b14, 0, none⟩) 1 1], Blk b12 38 [.slice (some ⟨b11, 0, none⟩) 3 3], Blk b11 48 [.int .i64 2, .int .i64 0, .int .i64 0, .int .i64 0, .int .i64 2, .int .i64 0], Blk b14 39 [.slice (some ⟨b13, 0, none⟩) 1 1], Blk b13 3 [.int .i64 0], Blk b1 48 [.int .i64 2, .int .i64 0]] _ := H29.pm (by repeat constructor)
        refine wl_nil (tn ⟨fun _ => HS30, ?_⟩)
        refine wj_vg (k := 39) rfl (by kernel_rfl) (fun _ _ _ h => h) rfl rfl g62 HS30 rfl (fun W HW => v_eql rfl rfl) ?_
        refine wj_v (k := 40) rfl (by kernel_rfl) (fun _ _ _ h => h) HS30 rfl rfl rfl (fun W HW => v_pick_t rfl g62 rfl) ?_
        refine wj_v (k := 41) rfl (by kernel_rfl) (fun _ _ _ h => h) HS30 rfl rfl rfl (fun W HW => v_move rfl) ?_
        refine wj_guard (dj := 67) rfl (fun g67 => ?_) (fun g67 => ?_)
        ·have g67p := of_decide_eq_true g67
         refine wj_vg (k := 42) rfl (by kernel_rfl) (fun _ _ _ h => h) rfl rfl g67 HS30 rfl (fun W HW => v_loadN agg25 rfl rfl (HW.ats (by repeat constructor))) ?_
         refine wj_t (k := 43) rfl (by kernel_rfl) ?_
         refine wl_on' rfl rfl g67 ?_
         refine wl_call en12 rfl rfl (alive_check (aT_rd (H29.pm (by repeat constructor)))) ?_
         rintro _ w31 ⟨rfl, Hc⟩
         have H32 := H29.call Hc
         have HS33 : Holds w [Blk b5 41 [.int .i64 p.kinds, .int .i64 p.rules, .slice a.d p.dflt.length a.kd, .slice a.b p.base.length a.kb, .slice a.c p.check.length a.kc, .slice a.e p.cell.length a.ke, .slice a.gb p.gbase.length a.kgb, .slice a.gc p.gcheck.length a.kgc, .slice a.ge p.gcell.length a.kge], Row fMv 48 (.slice a.d p.dflt.length a.kd) p.dflt, Row (fInt .i64) 3 (.slice a.b p.base.length a.kb) p.base, Row (fInt .i64) 3 (.slice a.c p.check.length a.kc) p.check, Row fMv 48 (.slice a.e p.cell.length a.ke) p.cell, Row (fInt .i64) 3 (.slice a.gb p.gbase.length a.kgb) p.gbase, Row (fInt .i64) 3 (.slice a.gc p.gcheck.length a.kgc) p.gcheck, Row (fInt .i64) 3 (.slice a.ge p.gcell.length a.kge) p.gcell, Blk b3 25 [.slice A1 1 c1, .slice A2 g.length c2], Raw 38 1 (.slice A1 1 c1) 1 [.slice B1 3 k1], Row fMv 48 (.slice B1 3 k1) [⟨2, 0⟩, ⟨2, 0⟩, ⟨2, 0⟩], Blk b2 25 [.slice (some ⟨b12, 0, none⟩) 1 1, .slice (some ⟨b14, 0, none⟩) 1 1], Blk b12 38 [.slice (some ⟨b11, 0, none⟩) 3 3], Blk b11 48 [.int .i64 2, .int .i64 0, .int .i64 0, .int .i64 0, .int .i64 2, .int .i64 0], Blk b14 39 [.slice (some ⟨b13, 0, none⟩) 1 1], Blk b13 3 [.int .i64 0], Blk b1 48 [.int .i64 2, .int .i64 0]] _ := H32.pm (by repeat constructor)
         refine wl_nil (tn ⟨fun _ => HS33, ?_⟩)
         refine wj_vg (k := 44) rfl (by kernel_rfl) (fun _ _ _ h => h) rfl rfl g67 HS33 rfl (fun W HW => v_eql rfl rfl) ?_
         refine wj_v (k := 45) rfl (by kernel_rfl) (fun _ _ _ h => h) HS33 rfl rfl rfl (fun W HW => v_pick_t rfl g67 rfl) ?_
         refine wj_v (k := 46) rfl (by kernel_rfl) (fun _ _ _ h => h) HS33 rfl rfl rfl (fun W HW => v_assign rfl) ?_
         refine wj_done (by kernel_rfl) ?_
         refine wc_ret ?_
         exact ⟨_, res1 rfl rfl, congrArg Value.bool (by decide), H32.pm (Pm.nil _)⟩
        ·have g67p := of_decide_eq_false g67
         exact absurd g67 (by decide)
       ·have g62p := of_decide_eq_false g62
        exact absurd g62 (by decide)
      ·have g56p := of_decide_eq_false g56
       exact absurd g56 (by decide)
     ·have g46p := of_decide_eq_false g46
      exact absurd g46 (by decide)
    ·have g38p := of_decide_eq_false g38
     exact absurd g38 (by decide)
   ·have g32p := of_decide_eq_false g32
    exact absurd g32 (by decide)
  ·have g28p := of_decide_eq_false g28
   exact absurd g28 (by decide)
end Go.Proofs.Ytkpehkadammppaa.AliveW

/-! The law on sound tables. -/
namespace Go.Proofs.Ytkpehkadammppaa.TSounds
open Go Go.RowKit Go.Proofs.YtkpehkadammppaaFx Go.Proofs.Ytkpehkadammppaa.PSound Go.Proofs.Ytkpehkadammppaa.RSound Go.Proofs.Ytkpehkadammppaa.AliveW
theorem agg25 : Agg Try.prog 25 2 := agg_of Try.underlying25 (by kernel_rfl)
theorem agg53 : Agg Try.prog 53 5 := agg_of Try.underlying53 (by kernel_rfl)
theorem en15 : Enters Try.prog 15 := enters Try.func15 (by kernel_rfl) rfl
theorem en19 : Enters Try.prog 19 := enters Try.func19 (by kernel_rfl) rfl
theorem en20 : Enters Try.prog 20 := enters Try.func20 (by kernel_rfl) rfl

set_option maxHeartbeats 1600000 in
set_option maxRecDepth 100000 in
theorem tableSounds_calls {g : Pl} {a : PlA} {t : Tb} {A B : Option Addr} {ca cb : Nat} {w : World} (hr : g.rd w a) (hg : g.ok) (hx : t.rd w A B) (hk : t.ok) :
    Calls Try.prog 6 #[.agg #[.slice a.k g.kinds.length a.ck, .slice a.p g.precs.length a.cp, .slice a.r g.rules.length a.cr, .slice a.q g.prods.length a.cq, .int .i64 g.start], .agg #[.slice A t.mv.length ca, .slice B t.go.length cb]] w fun e w' => ∃ v, e = .returned v ∧ v = .bool true ∧ Holds w [] w' := by
  refine calls_of Try.func6 rfl Try.ntmps6 rfl ?_
  have H := Holds.start w
  refine wc_seq ?_
  refine wc_region ?_
  refine wl_box (cs := [_, _, _, _, _]) H rfl rfl rfl ?_
  intro b2 w1 hb2 H2
  refine wl_box (cs := [_, _]) H2 rfl rfl rfl ?_
  intro b3 w3 hb3 H4
  refine wl_v rfl rfl rfl (v_assign rfl) ?_
  refine wl_nil ?_
  refine wc_seq ?_
  refine wc_region ?_
  refine wl_v rfl rfl rfl (v_loadN agg53 rfl rfl (H4.ats (by repeat constructor))) ?_
  refine wl_v rfl rfl rfl (v_loadN agg25 rfl rfl (H4.ats (by repeat constructor))) ?_
  refine wl_call en19 rfl rfl (psound_calls (hr.below H4.old) hg (hx.below H4.old) hk) ?_
  rintro _ w5 ⟨x1, y1, rfl, hs1, Hc⟩
  have H6 := H4.call0 Hc
  refine wl_v rfl rfl rfl (v_move rfl) ?_
  refine wl_v rfl rfl rfl (v_extract rfl rfl) ?_
  refine wl_v rfl rfl rfl (v_extract rfl rfl) ?_
  refine wl_v rfl rfl rfl (v_assign rfl) ?_
  refine wl_v rfl rfl rfl (v_assign rfl) ?_
  refine wl_nil ?_
  refine wc_seq ?_
  refine wc_region ?_
  refine wl_v rfl rfl rfl (v_loadN agg53 rfl rfl (H6.ats (by repeat constructor))) ?_
  refine wl_v rfl rfl rfl (v_loadN agg25 rfl rfl (H6.ats (by repeat constructor))) ?_
  refine wl_call en20 rfl rfl (rsound_calls (hr.below H6.old) hg (hx.below H6.old) hk) ?_
  rintro _ w7 ⟨x2, y2, rfl, hs2, Hc⟩
  have H8 := H6.call0 Hc
  obtain ⟨rfl, rfl⟩ := hs1.unique hs2
  refine wl_v rfl rfl rfl (v_move rfl) ?_
  refine wl_v rfl rfl rfl (v_extract rfl rfl) ?_
  refine wl_v rfl rfl rfl (v_extract rfl rfl) ?_
  refine wl_v rfl rfl rfl (v_assign rfl) ?_
  refine wl_v rfl rfl rfl (v_assign rfl) ?_
  refine wl_nil ?_
  refine wc_seq ?_
  refine wc_region ?_
  refine wl_v rfl rfl rfl (v_move rfl) ?_
  refine wl_v rfl rfl rfl (v_move rfl) ?_
  refine wl_v rfl rfl rfl (v_eql rfl rfl) ?_
  refine wl_v rfl rfl rfl (v_move rfl) ?_
  refine wl_guard rfl rfl rfl (fun g24 => ?_) (fun g24 => ?_)
  ·have g24p := of_decide_eq_true g24
   refine wl_v rfl rfl rfl (v_move rfl) ?_
   refine wl_on' rfl rfl g24 ?_
   refine wl_v rfl rfl rfl (v_move rfl) ?_
   refine wl_on' rfl rfl g24 ?_
   refine wl_v rfl rfl rfl (v_eql rfl rfl) ?_
   refine wl_v rfl rfl rfl (v_pick_t rfl g24 rfl) ?_
   refine wl_v rfl rfl rfl (v_move rfl) ?_
   refine wl_guard rfl rfl rfl (fun g29 => ?_) (fun g29 => ?_)
   ·have g29p := of_decide_eq_true g29
    refine wl_call en15 rfl rfl (alive_calls) ?_
    rintro _ w9 ⟨rfl, Hc⟩
    have H10 := H8.call Hc
    refine wl_v rfl rfl rfl (v_pick_t rfl g29 rfl) ?_
    refine wl_v rfl rfl rfl (v_assign rfl) ?_
    refine wl_nil ?_
    refine wc_ret ?_
    exact ⟨_, res1 rfl rfl, rfl, H10.pm (Pm.nil _)⟩
   ·have g29p := of_decide_eq_false g29
    exact absurd rfl (of_decide_eq_false g29)
  ·have g24p := of_decide_eq_false g24
   exact absurd rfl (of_decide_eq_false g24)
end Go.Proofs.Ytkpehkadammppaa.TSounds
