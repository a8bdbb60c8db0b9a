/- What a packed table says. -/
import Derived.Test.YtkpehkadammppaaProg
import Derived.Test.YtkpehkadammppaaPk
set_option linter.unusedVariables false
set_option linter.unusedSimpArgs false
namespace Go.Proofs.Ytkpehkadammppaa.Look
open Go Go.RowKit Go.Proofs.YtkpehkadammppaaFx 
theorem agg48 : Agg Try.prog 48 2 := agg_of Try.underlying48 (by kernel_rfl)
theorem ba48 : BuildAt Try.prog 48 [.int .i64 0, .int .i64 0] [(0, 1), (1, 1)] := build_at Try.underlying48 (by kernel_rfl) (by kernel_rfl)
theorem en50 : Enters Try.prog 50 := enters Try.func50 (by kernel_rfl) rfl
theorem en51 : Enters Try.prog 51 := enters Try.func51 (by kernel_rfl) rfl
theorem fa41_0 : FieldAt Try.prog 41 0 0 := field_at (sz := 0) Try.underlying41 rfl (by kernel_rfl) rfl
theorem fa41_1 : FieldAt Try.prog 41 1 1 := field_at (sz := 0) Try.underlying41 rfl (by kernel_rfl) rfl
theorem fa41_2 : FieldAt Try.prog 41 2 2 := field_at (sz := 0) Try.underlying41 rfl (by kernel_rfl) rfl
theorem fa41_3 : FieldAt Try.prog 41 3 3 := field_at (sz := 0) Try.underlying41 rfl (by kernel_rfl) rfl
theorem fa41_4 : FieldAt Try.prog 41 4 4 := field_at (sz := 0) Try.underlying41 rfl (by kernel_rfl) rfl
theorem fa41_5 : FieldAt Try.prog 41 5 5 := field_at (sz := 0) Try.underlying41 rfl (by kernel_rfl) rfl
theorem fa41_6 : FieldAt Try.prog 41 6 6 := field_at (sz := 0) Try.underlying41 rfl (by kernel_rfl) rfl
theorem fa41_7 : FieldAt Try.prog 41 7 7 := field_at (sz := 0) Try.underlying41 rfl (by kernel_rfl) rfl
theorem fa41_8 : FieldAt Try.prog 41 8 8 := field_at (sz := 0) Try.underlying41 rfl (by kernel_rfl) rfl
theorem one3 : One Try.prog 3 := one_of Try.underlying3 rfl (by kernel_rfl)
theorem one38 : One Try.prog 38 := one_of Try.underlying38 rfl (by kernel_rfl)
theorem one39 : One Try.prog 39 := one_of Try.underlying39 rfl (by kernel_rfl)
theorem sz3 : ∀ W, (sizeOf 3).run Try.prog W = .ok 1 W := size_of (by kernel_rfl)
theorem sz48 : ∀ W, (sizeOf 48).run Try.prog W = .ok 2 W := size_of (by kernel_rfl)
theorem zv48 : ∀ W, (zeroValue 48).run Try.prog W = .ok (.agg #[.int .i64 0, .int .i64 0]) W := zero_of (by kernel_rfl)

set_option maxRecDepth 100000 in
theorem cell_calls {A B : Option Addr} {ca cb : Nat} {base check : List Int} {cells : Nat} {s k : Int} {w : World} (hb : Rd (kInt .i64) w A base) (hc : Rd (kInt .i64) w B check) (q1 : base.length ≤ 1099511627776) (q2 : check.length ≤ 1099511627776) (hi : ∀ x ∈ base, I64 x) (hs : 0 ≤ s) (hk : 0 ≤ k) (hk2 : k ≤ 9223372036854775807) :
    Calls Try.prog 50 #[.slice A base.length ca, .slice B check.length cb, .int .i64 cells, .int .i64 s, .int .i64 k] w fun e w' => ∃ v, e = .returned v ∧ v = .int .i64 (cellF base check cells s k) ∧ Holds w [] w' := by
  refine calls_of Try.func50 rfl Try.ntmps50 rfl ?_
  have H := Holds.start w
  refine wc_seq ?_
  refine wc_region ?_
  refine wl_v rfl rfl rfl (v_assign rfl) ?_
  refine wl_nil ?_
  refine wc_seq ?_
  refine wc_seq ?_
  refine wc_region ?_
  refine wl_v rfl rfl rfl (v_move rfl) ?_
  refine wl_v rfl rfl rfl (v_move rfl) ?_
  refine wl_v rfl rfl rfl (v_len Try.underlying39 rfl) ?_
  refine wl_v rfl rfl rfl (v_geq rfl rfl) ?_
  refine wl_v rfl rfl rfl (v_move rfl) ?_
  refine wl_guard rfl rfl rfl (fun g16 => ?_) (fun g16 => ?_)
  · have g16p := of_decide_eq_false g16
    have hib := hi (base.getD s.toNat 0) (getD_mem (by omega))
    unfold I64 at hib
    have hw := fun h => wrap_cases (x := base.getD s.toNat 0 + k) h (by omega)
    refine wl_v rfl rfl rfl (v_move rfl) ?_
    refine wl_on' rfl rfl g16 ?_
    refine wl_v rfl rfl rfl (v_move rfl) ?_
    refine wl_on' rfl rfl g16 ?_
    refine wl_v rfl rfl rfl (v_idx Try.underlying39 sz3 hb.ad rfl rfl (by omega) (by omega)) ?_
    refine wl_on' rfl rfl g16 ?_
    refine wl_v rfl rfl rfl (v_load one3 rfl (H.cell (hb.at1 (by omega) (by omega)))) ?_
    refine wl_on' rfl rfl g16 ?_
    refine wl_v rfl rfl rfl (v_move rfl) ?_
    refine wl_on' rfl rfl g16 ?_
    refine wl_v rfl rfl rfl (v_len Try.underlying39 rfl) ?_
    refine wl_on' rfl rfl g16 ?_
    refine wl_v rfl rfl rfl (v_gtr rfl rfl) ?_
    refine wl_v rfl rfl rfl (v_pick_f rfl g16 rfl) ?_
    refine wl_v rfl rfl rfl (v_move rfl) ?_
    refine wl_guard rfl rfl rfl (fun g25 => ?_) (fun g25 => ?_)
    · have g25p := of_decide_eq_false g25
      refine wl_v rfl rfl rfl (v_move rfl) ?_
      refine wl_on' rfl rfl g25 ?_
      refine wl_v rfl rfl rfl (v_move rfl) ?_
      refine wl_on' rfl rfl g25 ?_
      refine wl_v rfl rfl rfl (v_idx Try.underlying39 sz3 hb.ad rfl rfl (by omega) (by omega)) ?_
      refine wl_on' rfl rfl g25 ?_
      refine wl_v rfl rfl rfl (v_load one3 rfl (H.cell (hb.at1 (by omega) (by omega)))) ?_
      refine wl_on' rfl rfl g25 ?_
      refine wl_v rfl rfl rfl (v_move rfl) ?_
      refine wl_on' rfl rfl g25 ?_
      refine wl_v rfl rfl rfl (v_negi rfl (by omega)) ?_
      refine wl_on' rfl rfl g25 ?_
      refine wl_v rfl rfl rfl (v_lss rfl rfl) ?_
      refine wl_v rfl rfl rfl (v_pick_f rfl g25 rfl) ?_
      refine wl_nil ?_
      refine wc_cond rfl (fun c0 => ?_) (fun c0 => ?_)
      · have c0p := of_decide_eq_true c0
        refine wc_seq ?_
        refine wc_region ?_
        refine wl_v rfl rfl rfl (v_assign rfl) ?_
        refine wl_nil ?_
        refine wc_ret ?_
        first
          | exact ⟨_, res1 rfl rfl, congrArg (Value.int .i64) (by rw [cellF_no (by omega)]), H⟩
          | exact ⟨_, res1 rfl rfl, congrArg (Value.int .i64) (by have e1 : IntKind.i64.wrap (base.getD s.toNat 0 + k) = base.getD s.toNat 0 + k := (by omega); have e2 : check.getD (IntKind.i64.wrap (base.getD s.toNat 0 + k)).toNat 0 = check.getD (base.getD s.toNat 0 + k).toNat 0 := congrArg (fun z : Int => check.getD z.toNat 0) e1; rw [cellF_no (by omega)]), H⟩
          | exact ⟨_, res1 rfl rfl, congrArg (Value.int .i64) (by have e1 : IntKind.i64.wrap (base.getD s.toNat 0 + k) = base.getD s.toNat 0 + k := (by omega); have e2 : check.getD (IntKind.i64.wrap (base.getD s.toNat 0 + k)).toNat 0 = check.getD (base.getD s.toNat 0 + k).toNat 0 := congrArg (fun z : Int => check.getD z.toNat 0) e1; rw [cellF_yes (by omega), e1]), H⟩
      · have c0p := of_decide_eq_false c0
        have hw := hw (by omega)
        refine wc_skip ?_
        refine wc_seq ?_
        refine wc_region ?_
        refine wl_v rfl rfl rfl (v_move rfl) ?_
        refine wl_v rfl rfl rfl (v_move rfl) ?_
        refine wl_v rfl rfl rfl (v_idx Try.underlying39 sz3 hb.ad rfl rfl (by omega) (by omega)) ?_
        refine wl_v rfl rfl rfl (v_load one3 rfl (H.cell (hb.at1 (by omega) (by omega)))) ?_
        refine wl_v rfl rfl rfl (v_move rfl) ?_
        refine wl_v rfl rfl rfl (v_add rfl rfl) ?_
        refine wl_v rfl rfl rfl (v_assign rfl) ?_
        refine wl_nil ?_
        refine wc_seq ?_
        refine wc_seq ?_
        refine wc_region ?_
        refine wl_v rfl rfl rfl (v_move rfl) ?_
        refine wl_v rfl rfl rfl (v_lss rfl rfl) ?_
        refine wl_v rfl rfl rfl (v_move rfl) ?_
        refine wl_guard rfl rfl rfl (fun g42 => ?_) (fun g42 => ?_)
        · have g42p := of_decide_eq_false g42
          refine wl_v rfl rfl rfl (v_move rfl) ?_
          refine wl_on' rfl rfl g42 ?_
          refine wl_v rfl rfl rfl (v_move rfl) ?_
          refine wl_on' rfl rfl g42 ?_
          refine wl_v rfl rfl rfl (v_len Try.underlying39 rfl) ?_
          refine wl_on' rfl rfl g42 ?_
          refine wl_v rfl rfl rfl (v_geq rfl rfl) ?_
          refine wl_v rfl rfl rfl (v_pick_f rfl g42 rfl) ?_
          refine wl_v rfl rfl rfl (v_move rfl) ?_
          refine wl_guard rfl rfl rfl (fun g48 => ?_) (fun g48 => ?_)
          · have g48p := of_decide_eq_false g48
            refine wl_v rfl rfl rfl (v_move rfl) ?_
            refine wl_on' rfl rfl g48 ?_
            refine wl_v rfl rfl rfl (v_move rfl) ?_
            refine wl_on' rfl rfl g48 ?_
            refine wl_v rfl rfl rfl (v_geq rfl rfl) ?_
            refine wl_v rfl rfl rfl (v_pick_f rfl g48 rfl) ?_
            refine wl_v rfl rfl rfl (v_move rfl) ?_
            refine wl_guard rfl rfl rfl (fun g53 => ?_) (fun g53 => ?_)
            · have g53p := of_decide_eq_false g53
              refine wl_v rfl rfl rfl (v_move rfl) ?_
              refine wl_on' rfl rfl g53 ?_
              refine wl_v rfl rfl rfl (v_move rfl) ?_
              refine wl_on' rfl rfl g53 ?_
              refine wl_v rfl rfl rfl (v_idx Try.underlying39 sz3 hc.ad rfl rfl (by omega) (by omega)) ?_
              refine wl_on' rfl rfl g53 ?_
              refine wl_v rfl rfl rfl (v_load one3 rfl (H.cell (hc.at1 (by omega) (by omega)))) ?_
              refine wl_on' rfl rfl g53 ?_
              refine wl_v rfl rfl rfl (v_move rfl) ?_
              refine wl_on' rfl rfl g53 ?_
              refine wl_v rfl rfl rfl (v_neq rfl rfl) ?_
              refine wl_v rfl rfl rfl (v_pick_f rfl g53 rfl) ?_
              refine wl_nil ?_
              refine wc_cond rfl (fun c1 => ?_) (fun c1 => ?_)
              · have c1p := of_nd_t c1
                refine wc_seq ?_
                refine wc_region ?_
                refine wl_v rfl rfl rfl (v_assign rfl) ?_
                refine wl_nil ?_
                refine wc_ret ?_
                first
                  | exact ⟨_, res1 rfl rfl, congrArg (Value.int .i64) (by rw [cellF_no (by omega)]), H⟩
                  | exact ⟨_, res1 rfl rfl, congrArg (Value.int .i64) (by have e1 : IntKind.i64.wrap (base.getD s.toNat 0 + k) = base.getD s.toNat 0 + k := (by omega); have e2 : check.getD (IntKind.i64.wrap (base.getD s.toNat 0 + k)).toNat 0 = check.getD (base.getD s.toNat 0 + k).toNat 0 := congrArg (fun z : Int => check.getD z.toNat 0) e1; rw [cellF_no (by omega)]), H⟩
                  | exact ⟨_, res1 rfl rfl, congrArg (Value.int .i64) (by have e1 : IntKind.i64.wrap (base.getD s.toNat 0 + k) = base.getD s.toNat 0 + k := (by omega); have e2 : check.getD (IntKind.i64.wrap (base.getD s.toNat 0 + k)).toNat 0 = check.getD (base.getD s.toNat 0 + k).toNat 0 := congrArg (fun z : Int => check.getD z.toNat 0) e1; rw [cellF_yes (by omega), e1]), H⟩
              · have c1p := of_nd_f c1
                refine wc_skip ?_
                refine wc_seq ?_
                refine wc_region ?_
                refine wl_v rfl rfl rfl (v_move rfl) ?_
                refine wl_v rfl rfl rfl (v_assign rfl) ?_
                refine wl_nil ?_
                refine wc_ret ?_
                first
                  | exact ⟨_, res1 rfl rfl, congrArg (Value.int .i64) (by rw [cellF_no (by omega)]), H⟩
                  | exact ⟨_, res1 rfl rfl, congrArg (Value.int .i64) (by have e1 : IntKind.i64.wrap (base.getD s.toNat 0 + k) = base.getD s.toNat 0 + k := (by omega); have e2 : check.getD (IntKind.i64.wrap (base.getD s.toNat 0 + k)).toNat 0 = check.getD (base.getD s.toNat 0 + k).toNat 0 := congrArg (fun z : Int => check.getD z.toNat 0) e1; rw [cellF_no (by omega)]), H⟩
                  | exact ⟨_, res1 rfl rfl, congrArg (Value.int .i64) (by have e1 : IntKind.i64.wrap (base.getD s.toNat 0 + k) = base.getD s.toNat 0 + k := (by omega); have e2 : check.getD (IntKind.i64.wrap (base.getD s.toNat 0 + k)).toNat 0 = check.getD (base.getD s.toNat 0 + k).toNat 0 := congrArg (fun z : Int => check.getD z.toNat 0) e1; rw [cellF_yes (by omega), e1]), H⟩
            · have g53p := of_decide_eq_true g53
              refine wl_off rfl rfl g53 rfl ?_
              refine wl_off rfl rfl g53 rfl ?_
              refine wl_off rfl rfl g53 rfl ?_
              refine wl_off rfl rfl g53 rfl ?_
              refine wl_off rfl rfl g53 rfl ?_
              refine wl_v rfl rfl rfl (v_pick_t rfl g53 rfl) ?_
              refine wl_nil ?_
              refine wc_cond_t rfl ?_
              refine wc_seq ?_
              refine wc_region ?_
              refine wl_v rfl rfl rfl (v_assign rfl) ?_
              refine wl_nil ?_
              refine wc_ret ?_
              first
                | exact ⟨_, res1 rfl rfl, congrArg (Value.int .i64) (by rw [cellF_no (by omega)]), H⟩
                | exact ⟨_, res1 rfl rfl, congrArg (Value.int .i64) (by have e1 : IntKind.i64.wrap (base.getD s.toNat 0 + k) = base.getD s.toNat 0 + k := (by omega); have e2 : check.getD (IntKind.i64.wrap (base.getD s.toNat 0 + k)).toNat 0 = check.getD (base.getD s.toNat 0 + k).toNat 0 := congrArg (fun z : Int => check.getD z.toNat 0) e1; rw [cellF_no (by omega)]), H⟩
                | exact ⟨_, res1 rfl rfl, congrArg (Value.int .i64) (by have e1 : IntKind.i64.wrap (base.getD s.toNat 0 + k) = base.getD s.toNat 0 + k := (by omega); have e2 : check.getD (IntKind.i64.wrap (base.getD s.toNat 0 + k)).toNat 0 = check.getD (base.getD s.toNat 0 + k).toNat 0 := congrArg (fun z : Int => check.getD z.toNat 0) e1; rw [cellF_yes (by omega), e1]), H⟩
          · have g48p := of_decide_eq_true g48
            refine wl_off rfl rfl g48 rfl ?_
            refine wl_off rfl rfl g48 rfl ?_
            refine wl_v rfl rfl rfl (v_pick_t rfl g48 rfl) ?_
            refine wl_v rfl rfl rfl (v_move rfl) ?_
            refine wl_off rfl rfl rfl rfl ?_
            refine wl_off rfl rfl rfl rfl ?_
            refine wl_off rfl rfl rfl rfl ?_
            refine wl_off rfl rfl rfl rfl ?_
            refine wl_off rfl rfl rfl rfl ?_
            refine wl_off rfl rfl rfl rfl ?_
            refine wl_v rfl rfl rfl (v_pick_t rfl rfl rfl) ?_
            refine wl_nil ?_
            refine wc_cond_t rfl ?_
            refine wc_seq ?_
            refine wc_region ?_
            refine wl_v rfl rfl rfl (v_assign rfl) ?_
            refine wl_nil ?_
            refine wc_ret ?_
            first
              | exact ⟨_, res1 rfl rfl, congrArg (Value.int .i64) (by rw [cellF_no (by omega)]), H⟩
              | exact ⟨_, res1 rfl rfl, congrArg (Value.int .i64) (by have e1 : IntKind.i64.wrap (base.getD s.toNat 0 + k) = base.getD s.toNat 0 + k := (by omega); have e2 : check.getD (IntKind.i64.wrap (base.getD s.toNat 0 + k)).toNat 0 = check.getD (base.getD s.toNat 0 + k).toNat 0 := congrArg (fun z : Int => check.getD z.toNat 0) e1; rw [cellF_no (by omega)]), H⟩
              | exact ⟨_, res1 rfl rfl, congrArg (Value.int .i64) (by have e1 : IntKind.i64.wrap (base.getD s.toNat 0 + k) = base.getD s.toNat 0 + k := (by omega); have e2 : check.getD (IntKind.i64.wrap (base.getD s.toNat 0 + k)).toNat 0 = check.getD (base.getD s.toNat 0 + k).toNat 0 := congrArg (fun z : Int => check.getD z.toNat 0) e1; rw [cellF_yes (by omega), e1]), H⟩
        · have g42p := of_decide_eq_true g42
          refine wl_off rfl rfl g42 rfl ?_
          refine wl_off rfl rfl g42 rfl ?_
          refine wl_off rfl rfl g42 rfl ?_
          refine wl_v rfl rfl rfl (v_pick_t rfl g42 rfl) ?_
          refine wl_v rfl rfl rfl (v_move rfl) ?_
          refine wl_off rfl rfl rfl rfl ?_
          refine wl_off rfl rfl rfl rfl ?_
          refine wl_off rfl rfl rfl rfl ?_
          refine wl_v rfl rfl rfl (v_pick_t rfl rfl rfl) ?_
          refine wl_v rfl rfl rfl (v_move rfl) ?_
          refine wl_off rfl rfl rfl rfl ?_
          refine wl_off rfl rfl rfl rfl ?_
          refine wl_off rfl rfl rfl rfl ?_
          refine wl_off rfl rfl rfl rfl ?_
          refine wl_off rfl rfl rfl rfl ?_
          refine wl_off rfl rfl rfl rfl ?_
          refine wl_v rfl rfl rfl (v_pick_t rfl rfl rfl) ?_
          refine wl_nil ?_
          refine wc_cond_t rfl ?_
          refine wc_seq ?_
          refine wc_region ?_
          refine wl_v rfl rfl rfl (v_assign rfl) ?_
          refine wl_nil ?_
          refine wc_ret ?_
          first
            | exact ⟨_, res1 rfl rfl, congrArg (Value.int .i64) (by rw [cellF_no (by omega)]), H⟩
            | exact ⟨_, res1 rfl rfl, congrArg (Value.int .i64) (by have e1 : IntKind.i64.wrap (base.getD s.toNat 0 + k) = base.getD s.toNat 0 + k := (by omega); have e2 : check.getD (IntKind.i64.wrap (base.getD s.toNat 0 + k)).toNat 0 = check.getD (base.getD s.toNat 0 + k).toNat 0 := congrArg (fun z : Int => check.getD z.toNat 0) e1; rw [cellF_no (by omega)]), H⟩
            | exact ⟨_, res1 rfl rfl, congrArg (Value.int .i64) (by have e1 : IntKind.i64.wrap (base.getD s.toNat 0 + k) = base.getD s.toNat 0 + k := (by omega); have e2 : check.getD (IntKind.i64.wrap (base.getD s.toNat 0 + k)).toNat 0 = check.getD (base.getD s.toNat 0 + k).toNat 0 := congrArg (fun z : Int => check.getD z.toNat 0) e1; rw [cellF_yes (by omega), e1]), H⟩
    · have g25p := of_decide_eq_true g25
      refine wl_off rfl rfl g25 rfl ?_
      refine wl_off rfl rfl g25 rfl ?_
      refine wl_off rfl rfl g25 rfl ?_
      refine wl_off rfl rfl g25 rfl ?_
      refine wl_off rfl rfl g25 rfl ?_
      refine wl_off rfl rfl g25 rfl ?_
      refine wl_v rfl rfl rfl (v_pick_t rfl g25 rfl) ?_
      refine wl_nil ?_
      refine wc_cond_t rfl ?_
      refine wc_seq ?_
      refine wc_region ?_
      refine wl_v rfl rfl rfl (v_assign rfl) ?_
      refine wl_nil ?_
      refine wc_ret ?_
      first
        | exact ⟨_, res1 rfl rfl, congrArg (Value.int .i64) (by rw [cellF_no (by omega)]), H⟩
        | exact ⟨_, res1 rfl rfl, congrArg (Value.int .i64) (by have e1 : IntKind.i64.wrap (base.getD s.toNat 0 + k) = base.getD s.toNat 0 + k := (by omega); have e2 : check.getD (IntKind.i64.wrap (base.getD s.toNat 0 + k)).toNat 0 = check.getD (base.getD s.toNat 0 + k).toNat 0 := congrArg (fun z : Int => check.getD z.toNat 0) e1; rw [cellF_no (by omega)]), H⟩
        | exact ⟨_, res1 rfl rfl, congrArg (Value.int .i64) (by have e1 : IntKind.i64.wrap (base.getD s.toNat 0 + k) = base.getD s.toNat 0 + k := (by omega); have e2 : check.getD (IntKind.i64.wrap (base.getD s.toNat 0 + k)).toNat 0 = check.getD (base.getD s.toNat 0 + k).toNat 0 := congrArg (fun z : Int => check.getD z.toNat 0) e1; rw [cellF_yes (by omega), e1]), H⟩
  · have g16p := of_decide_eq_true g16
    refine wl_off rfl rfl g16 rfl ?_
    refine wl_off rfl rfl g16 rfl ?_
    refine wl_off rfl rfl g16 rfl ?_
    refine wl_off rfl rfl g16 rfl ?_
    refine wl_off rfl rfl g16 rfl ?_
    refine wl_off rfl rfl g16 rfl ?_
    refine wl_v rfl rfl rfl (v_pick_t rfl g16 rfl) ?_
    refine wl_v rfl rfl rfl (v_move rfl) ?_
    refine wl_off rfl rfl rfl rfl ?_
    refine wl_off rfl rfl rfl rfl ?_
    refine wl_off rfl rfl rfl rfl ?_
    refine wl_off rfl rfl rfl rfl ?_
    refine wl_off rfl rfl rfl rfl ?_
    refine wl_off rfl rfl rfl rfl ?_
    refine wl_off rfl rfl rfl rfl ?_
    refine wl_v rfl rfl rfl (v_pick_t rfl rfl rfl) ?_
    refine wl_nil ?_
    refine wc_cond_t rfl ?_
    refine wc_seq ?_
    refine wc_region ?_
    refine wl_v rfl rfl rfl (v_assign rfl) ?_
    refine wl_nil ?_
    refine wc_ret ?_
    first
      | exact ⟨_, res1 rfl rfl, congrArg (Value.int .i64) (by rw [cellF_no (by omega)]), H⟩
      | exact ⟨_, res1 rfl rfl, congrArg (Value.int .i64) (by have e1 : IntKind.i64.wrap (base.getD s.toNat 0 + k) = base.getD s.toNat 0 + k := (by omega); have e2 : check.getD (IntKind.i64.wrap (base.getD s.toNat 0 + k)).toNat 0 = check.getD (base.getD s.toNat 0 + k).toNat 0 := congrArg (fun z : Int => check.getD z.toNat 0) e1; rw [cellF_no (by omega)]), H⟩
      | exact ⟨_, res1 rfl rfl, congrArg (Value.int .i64) (by have e1 : IntKind.i64.wrap (base.getD s.toNat 0 + k) = base.getD s.toNat 0 + k := (by omega); have e2 : check.getD (IntKind.i64.wrap (base.getD s.toNat 0 + k)).toNat 0 = check.getD (base.getD s.toNat 0 + k).toNat 0 := congrArg (fun z : Int => check.getD z.toNat 0) e1; rw [cellF_yes (by omega), e1]), H⟩

set_option maxRecDepth 100000 in
theorem there_calls {A B : Option Addr} {ca cb : Nat} {base check : List Int} {cells : Nat} {s k : Int} {w : World} (hb : Rd (kInt .i64) w A base) (hc : Rd (kInt .i64) w B check) (q1 : base.length ≤ 1099511627776) (q2 : check.length ≤ 1099511627776) (hi : ∀ x ∈ base, I64 x) (hs : 0 ≤ s) (hk : 0 ≤ k) (hk2 : k ≤ 9223372036854775807) :
    Calls Try.prog 51 #[.slice A base.length ca, .slice B check.length cb, .int .i64 s, .int .i64 k, .int .i64 cells] w fun e w' => ∃ v, e = .returned v ∧ v = .int .i64 (cellF base check cells s k) ∧ Holds w [] w' := by
  refine calls_of Try.func51 rfl Try.ntmps51 rfl ?_
  have H := Holds.start w
  refine wc_seq ?_
  refine wc_region ?_
  refine wl_v rfl rfl rfl (v_assign rfl) ?_
  refine wl_nil ?_
  refine wc_seq ?_
  refine wc_seq ?_
  refine wc_region ?_
  refine wl_v rfl rfl rfl (v_move rfl) ?_
  refine wl_v rfl rfl rfl (v_move rfl) ?_
  refine wl_v rfl rfl rfl (v_len Try.underlying39 rfl) ?_
  refine wl_v rfl rfl rfl (v_geq rfl rfl) ?_
  refine wl_nil ?_
  refine wc_cond rfl (fun c0 => ?_) (fun c0 => ?_)
  · have c0p := of_decide_eq_true c0
    refine wc_seq ?_
    refine wc_region ?_
    refine wl_v rfl rfl rfl (v_assign rfl) ?_
    refine wl_nil ?_
    refine wc_ret ?_
    first
      | exact ⟨_, res1 rfl rfl, congrArg (Value.int .i64) (by rw [cellF_no (by omega)]), H⟩
      | exact ⟨_, res1 rfl rfl, congrArg (Value.int .i64) (by have e1 : IntKind.i64.wrap (base.getD s.toNat 0 + k) = base.getD s.toNat 0 + k := (by omega); have e2 : check.getD (IntKind.i64.wrap (base.getD s.toNat 0 + k)).toNat 0 = check.getD (base.getD s.toNat 0 + k).toNat 0 := congrArg (fun z : Int => check.getD z.toNat 0) e1; rw [cellF_no (by omega)]), H⟩
      | exact ⟨_, res1 rfl rfl, congrArg (Value.int .i64) (by have e1 : IntKind.i64.wrap (base.getD s.toNat 0 + k) = base.getD s.toNat 0 + k := (by omega); have e2 : check.getD (IntKind.i64.wrap (base.getD s.toNat 0 + k)).toNat 0 = check.getD (base.getD s.toNat 0 + k).toNat 0 := congrArg (fun z : Int => check.getD z.toNat 0) e1; rw [cellF_yes (by omega), e1]), H⟩
  · have c0p := of_decide_eq_false c0
    have hib := hi (base.getD s.toNat 0) (getD_mem (by omega))
    unfold I64 at hib
    have hw := wrap_cases (x := base.getD s.toNat 0 + k) (by omega) (by omega)
    refine wc_skip ?_
    refine wc_seq ?_
    refine wc_region ?_
    refine wl_v rfl rfl rfl (v_move rfl) ?_
    refine wl_v rfl rfl rfl (v_move rfl) ?_
    refine wl_v rfl rfl rfl (v_idx Try.underlying39 sz3 hb.ad rfl rfl (by omega) (by omega)) ?_
    refine wl_v rfl rfl rfl (v_load one3 rfl (H.cell (hb.at1 (by omega) (by omega)))) ?_
    refine wl_v rfl rfl rfl (v_assign rfl) ?_
    refine wl_nil ?_
    refine wc_seq ?_
    refine wc_seq ?_
    refine wc_region ?_
    refine wl_v rfl rfl rfl (v_move rfl) ?_
    refine wl_v rfl rfl rfl (v_lss rfl rfl) ?_
    refine wl_v rfl rfl rfl (v_move rfl) ?_
    refine wl_guard rfl rfl rfl (fun g23 => ?_) (fun g23 => ?_)
    · have g23p := of_decide_eq_true g23
      refine wl_v rfl rfl rfl (v_move rfl) ?_
      refine wl_on' rfl rfl g23 ?_
      refine wl_v rfl rfl rfl (v_move rfl) ?_
      refine wl_on' rfl rfl g23 ?_
      refine wl_v rfl rfl rfl (v_add rfl rfl) ?_
      refine wl_on' rfl rfl g23 ?_
      refine wl_v rfl rfl rfl (v_lss rfl rfl) ?_
      refine wl_v rfl rfl rfl (v_pick_t rfl g23 rfl) ?_
      refine wl_v rfl rfl rfl (v_move rfl) ?_
      refine wl_guard rfl rfl rfl (fun g29 => ?_) (fun g29 => ?_)
      · have g29p := of_decide_eq_false g29
        refine wl_v rfl rfl rfl (v_move rfl) ?_
        refine wl_on' rfl rfl g29 ?_
        refine wl_v rfl rfl rfl (v_gtr rfl rfl) ?_
        refine wl_v rfl rfl rfl (v_pick_f rfl g29 rfl) ?_
        refine wl_nil ?_
        refine wc_cond rfl (fun c1 => ?_) (fun c1 => ?_)
        · have c1p := of_decide_eq_true c1
          refine wc_seq ?_
          refine wc_region ?_
          refine wl_v rfl rfl rfl (v_assign rfl) ?_
          refine wl_nil ?_
          refine wc_ret ?_
          first
            | exact ⟨_, res1 rfl rfl, congrArg (Value.int .i64) (by rw [cellF_no (by omega)]), H⟩
            | exact ⟨_, res1 rfl rfl, congrArg (Value.int .i64) (by have e1 : IntKind.i64.wrap (base.getD s.toNat 0 + k) = base.getD s.toNat 0 + k := (by omega); have e2 : check.getD (IntKind.i64.wrap (base.getD s.toNat 0 + k)).toNat 0 = check.getD (base.getD s.toNat 0 + k).toNat 0 := congrArg (fun z : Int => check.getD z.toNat 0) e1; rw [cellF_no (by omega)]), H⟩
            | exact ⟨_, res1 rfl rfl, congrArg (Value.int .i64) (by have e1 : IntKind.i64.wrap (base.getD s.toNat 0 + k) = base.getD s.toNat 0 + k := (by omega); have e2 : check.getD (IntKind.i64.wrap (base.getD s.toNat 0 + k)).toNat 0 = check.getD (base.getD s.toNat 0 + k).toNat 0 := congrArg (fun z : Int => check.getD z.toNat 0) e1; rw [cellF_yes (by omega), e1]), H⟩
        · have c1p := of_decide_eq_false c1
          refine wc_skip ?_
          refine wc_seq ?_
          refine wc_region ?_
          refine wl_v rfl rfl rfl (v_move rfl) ?_
          refine wl_v rfl rfl rfl (v_move rfl) ?_
          refine wl_v rfl rfl rfl (v_add rfl rfl) ?_
          refine wl_v rfl rfl rfl (v_assign rfl) ?_
          refine wl_nil ?_
          refine wc_seq ?_
          refine wc_seq ?_
          refine wc_region ?_
          refine wl_v rfl rfl rfl (v_move rfl) ?_
          refine wl_v rfl rfl rfl (v_lss rfl rfl) ?_
          refine wl_v rfl rfl rfl (v_move rfl) ?_
          refine wl_guard rfl rfl rfl (fun g38 => ?_) (fun g38 => ?_)
          · have g38p := of_decide_eq_false g38
            refine wl_v rfl rfl rfl (v_move rfl) ?_
            refine wl_on' rfl rfl g38 ?_
            refine wl_v rfl rfl rfl (v_move rfl) ?_
            refine wl_on' rfl rfl g38 ?_
            refine wl_v rfl rfl rfl (v_len Try.underlying39 rfl) ?_
            refine wl_on' rfl rfl g38 ?_
            refine wl_v rfl rfl rfl (v_geq rfl rfl) ?_
            refine wl_v rfl rfl rfl (v_pick_f rfl g38 rfl) ?_
            refine wl_v rfl rfl rfl (v_move rfl) ?_
            refine wl_guard rfl rfl rfl (fun g44 => ?_) (fun g44 => ?_)
            · have g44p := of_decide_eq_false g44
              refine wl_v rfl rfl rfl (v_move rfl) ?_
              refine wl_on' rfl rfl g44 ?_
              refine wl_v rfl rfl rfl (v_move rfl) ?_
              refine wl_on' rfl rfl g44 ?_
              refine wl_v rfl rfl rfl (v_geq rfl rfl) ?_
              refine wl_v rfl rfl rfl (v_pick_f rfl g44 rfl) ?_
              refine wl_v rfl rfl rfl (v_move rfl) ?_
              refine wl_guard rfl rfl rfl (fun g49 => ?_) (fun g49 => ?_)
              · have g49p := of_decide_eq_false g49
                refine wl_v rfl rfl rfl (v_move rfl) ?_
                refine wl_on' rfl rfl g49 ?_
                refine wl_v rfl rfl rfl (v_move rfl) ?_
                refine wl_on' rfl rfl g49 ?_
                refine wl_v rfl rfl rfl (v_idx Try.underlying39 sz3 hc.ad rfl rfl (by omega) (by omega)) ?_
                refine wl_on' rfl rfl g49 ?_
                refine wl_v rfl rfl rfl (v_load one3 rfl (H.cell (hc.at1 (by omega) (by omega)))) ?_
                refine wl_on' rfl rfl g49 ?_
                refine wl_v rfl rfl rfl (v_move rfl) ?_
                refine wl_on' rfl rfl g49 ?_
                refine wl_v rfl rfl rfl (v_neq rfl rfl) ?_
                refine wl_v rfl rfl rfl (v_pick_f rfl g49 rfl) ?_
                refine wl_nil ?_
                refine wc_cond rfl (fun c2 => ?_) (fun c2 => ?_)
                · have c2p := of_nd_t c2
                  refine wc_seq ?_
                  refine wc_region ?_
                  refine wl_v rfl rfl rfl (v_assign rfl) ?_
                  refine wl_nil ?_
                  refine wc_ret ?_
                  first
                    | exact ⟨_, res1 rfl rfl, congrArg (Value.int .i64) (by rw [cellF_no (by omega)]), H⟩
                    | exact ⟨_, res1 rfl rfl, congrArg (Value.int .i64) (by have e1 : IntKind.i64.wrap (base.getD s.toNat 0 + k) = base.getD s.toNat 0 + k := (by omega); have e2 : check.getD (IntKind.i64.wrap (base.getD s.toNat 0 + k)).toNat 0 = check.getD (base.getD s.toNat 0 + k).toNat 0 := congrArg (fun z : Int => check.getD z.toNat 0) e1; rw [cellF_no (by omega)]), H⟩
                    | exact ⟨_, res1 rfl rfl, congrArg (Value.int .i64) (by have e1 : IntKind.i64.wrap (base.getD s.toNat 0 + k) = base.getD s.toNat 0 + k := (by omega); have e2 : check.getD (IntKind.i64.wrap (base.getD s.toNat 0 + k)).toNat 0 = check.getD (base.getD s.toNat 0 + k).toNat 0 := congrArg (fun z : Int => check.getD z.toNat 0) e1; rw [cellF_yes (by omega), e1]), H⟩
                · have c2p := of_nd_f c2
                  refine wc_skip ?_
                  refine wc_seq ?_
                  refine wc_region ?_
                  refine wl_v rfl rfl rfl (v_move rfl) ?_
                  refine wl_v rfl rfl rfl (v_assign rfl) ?_
                  refine wl_nil ?_
                  refine wc_ret ?_
                  first
                    | exact ⟨_, res1 rfl rfl, congrArg (Value.int .i64) (by rw [cellF_no (by omega)]), H⟩
                    | exact ⟨_, res1 rfl rfl, congrArg (Value.int .i64) (by have e1 : IntKind.i64.wrap (base.getD s.toNat 0 + k) = base.getD s.toNat 0 + k := (by omega); have e2 : check.getD (IntKind.i64.wrap (base.getD s.toNat 0 + k)).toNat 0 = check.getD (base.getD s.toNat 0 + k).toNat 0 := congrArg (fun z : Int => check.getD z.toNat 0) e1; rw [cellF_no (by omega)]), H⟩
                    | exact ⟨_, res1 rfl rfl, congrArg (Value.int .i64) (by have e1 : IntKind.i64.wrap (base.getD s.toNat 0 + k) = base.getD s.toNat 0 + k := (by omega); have e2 : check.getD (IntKind.i64.wrap (base.getD s.toNat 0 + k)).toNat 0 = check.getD (base.getD s.toNat 0 + k).toNat 0 := congrArg (fun z : Int => check.getD z.toNat 0) e1; rw [cellF_yes (by omega), e1]), H⟩
              · have g49p := of_decide_eq_true g49
                refine wl_off rfl rfl g49 rfl ?_
                refine wl_off rfl rfl g49 rfl ?_
                refine wl_off rfl rfl g49 rfl ?_
                refine wl_off rfl rfl g49 rfl ?_
                refine wl_off rfl rfl g49 rfl ?_
                refine wl_v rfl rfl rfl (v_pick_t rfl g49 rfl) ?_
                refine wl_nil ?_
                refine wc_cond_t rfl ?_
                refine wc_seq ?_
                refine wc_region ?_
                refine wl_v rfl rfl rfl (v_assign rfl) ?_
                refine wl_nil ?_
                refine wc_ret ?_
                first
                  | exact ⟨_, res1 rfl rfl, congrArg (Value.int .i64) (by rw [cellF_no (by omega)]), H⟩
                  | exact ⟨_, res1 rfl rfl, congrArg (Value.int .i64) (by have e1 : IntKind.i64.wrap (base.getD s.toNat 0 + k) = base.getD s.toNat 0 + k := (by omega); have e2 : check.getD (IntKind.i64.wrap (base.getD s.toNat 0 + k)).toNat 0 = check.getD (base.getD s.toNat 0 + k).toNat 0 := congrArg (fun z : Int => check.getD z.toNat 0) e1; rw [cellF_no (by omega)]), H⟩
                  | exact ⟨_, res1 rfl rfl, congrArg (Value.int .i64) (by have e1 : IntKind.i64.wrap (base.getD s.toNat 0 + k) = base.getD s.toNat 0 + k := (by omega); have e2 : check.getD (IntKind.i64.wrap (base.getD s.toNat 0 + k)).toNat 0 = check.getD (base.getD s.toNat 0 + k).toNat 0 := congrArg (fun z : Int => check.getD z.toNat 0) e1; rw [cellF_yes (by omega), e1]), H⟩
            · have g44p := of_decide_eq_true g44
              refine wl_off rfl rfl g44 rfl ?_
              refine wl_off rfl rfl g44 rfl ?_
              refine wl_v rfl rfl rfl (v_pick_t rfl g44 rfl) ?_
              refine wl_v rfl rfl rfl (v_move rfl) ?_
              refine wl_off rfl rfl rfl rfl ?_
              refine wl_off rfl rfl rfl rfl ?_
              refine wl_off rfl rfl rfl rfl ?_
              refine wl_off rfl rfl rfl rfl ?_
              refine wl_off rfl rfl rfl rfl ?_
              refine wl_off rfl rfl rfl rfl ?_
              refine wl_v rfl rfl rfl (v_pick_t rfl rfl rfl) ?_
              refine wl_nil ?_
              refine wc_cond_t rfl ?_
              refine wc_seq ?_
              refine wc_region ?_
              refine wl_v rfl rfl rfl (v_assign rfl) ?_
              refine wl_nil ?_
              refine wc_ret ?_
              first
                | exact ⟨_, res1 rfl rfl, congrArg (Value.int .i64) (by rw [cellF_no (by omega)]), H⟩
                | exact ⟨_, res1 rfl rfl, congrArg (Value.int .i64) (by have e1 : IntKind.i64.wrap (base.getD s.toNat 0 + k) = base.getD s.toNat 0 + k := (by omega); have e2 : check.getD (IntKind.i64.wrap (base.getD s.toNat 0 + k)).toNat 0 = check.getD (base.getD s.toNat 0 + k).toNat 0 := congrArg (fun z : Int => check.getD z.toNat 0) e1; rw [cellF_no (by omega)]), H⟩
                | exact ⟨_, res1 rfl rfl, congrArg (Value.int .i64) (by have e1 : IntKind.i64.wrap (base.getD s.toNat 0 + k) = base.getD s.toNat 0 + k := (by omega); have e2 : check.getD (IntKind.i64.wrap (base.getD s.toNat 0 + k)).toNat 0 = check.getD (base.getD s.toNat 0 + k).toNat 0 := congrArg (fun z : Int => check.getD z.toNat 0) e1; rw [cellF_yes (by omega), e1]), H⟩
          · have g38p := of_decide_eq_true g38
            refine wl_off rfl rfl g38 rfl ?_
            refine wl_off rfl rfl g38 rfl ?_
            refine wl_off rfl rfl g38 rfl ?_
            refine wl_v rfl rfl rfl (v_pick_t rfl g38 rfl) ?_
            refine wl_v rfl rfl rfl (v_move rfl) ?_
            refine wl_off rfl rfl rfl rfl ?_
            refine wl_off rfl rfl rfl rfl ?_
            refine wl_off rfl rfl rfl rfl ?_
            refine wl_v rfl rfl rfl (v_pick_t rfl rfl rfl) ?_
            refine wl_v rfl rfl rfl (v_move rfl) ?_
            refine wl_off rfl rfl rfl rfl ?_
            refine wl_off rfl rfl rfl rfl ?_
            refine wl_off rfl rfl rfl rfl ?_
            refine wl_off rfl rfl rfl rfl ?_
            refine wl_off rfl rfl rfl rfl ?_
            refine wl_off rfl rfl rfl rfl ?_
            refine wl_v rfl rfl rfl (v_pick_t rfl rfl rfl) ?_
            refine wl_nil ?_
            refine wc_cond_t rfl ?_
            refine wc_seq ?_
            refine wc_region ?_
            refine wl_v rfl rfl rfl (v_assign rfl) ?_
            refine wl_nil ?_
            refine wc_ret ?_
            first
              | exact ⟨_, res1 rfl rfl, congrArg (Value.int .i64) (by rw [cellF_no (by omega)]), H⟩
              | exact ⟨_, res1 rfl rfl, congrArg (Value.int .i64) (by have e1 : IntKind.i64.wrap (base.getD s.toNat 0 + k) = base.getD s.toNat 0 + k := (by omega); have e2 : check.getD (IntKind.i64.wrap (base.getD s.toNat 0 + k)).toNat 0 = check.getD (base.getD s.toNat 0 + k).toNat 0 := congrArg (fun z : Int => check.getD z.toNat 0) e1; rw [cellF_no (by omega)]), H⟩
              | exact ⟨_, res1 rfl rfl, congrArg (Value.int .i64) (by have e1 : IntKind.i64.wrap (base.getD s.toNat 0 + k) = base.getD s.toNat 0 + k := (by omega); have e2 : check.getD (IntKind.i64.wrap (base.getD s.toNat 0 + k)).toNat 0 = check.getD (base.getD s.toNat 0 + k).toNat 0 := congrArg (fun z : Int => check.getD z.toNat 0) e1; rw [cellF_yes (by omega), e1]), H⟩
      · have g29p := of_decide_eq_true g29
        refine wl_off rfl rfl g29 rfl ?_
        refine wl_v rfl rfl rfl (v_pick_t rfl g29 rfl) ?_
        refine wl_nil ?_
        refine wc_cond_t rfl ?_
        refine wc_seq ?_
        refine wc_region ?_
        refine wl_v rfl rfl rfl (v_assign rfl) ?_
        refine wl_nil ?_
        refine wc_ret ?_
        first
          | exact ⟨_, res1 rfl rfl, congrArg (Value.int .i64) (by rw [cellF_no (by omega)]), H⟩
          | exact ⟨_, res1 rfl rfl, congrArg (Value.int .i64) (by have e1 : IntKind.i64.wrap (base.getD s.toNat 0 + k) = base.getD s.toNat 0 + k := (by omega); have e2 : check.getD (IntKind.i64.wrap (base.getD s.toNat 0 + k)).toNat 0 = check.getD (base.getD s.toNat 0 + k).toNat 0 := congrArg (fun z : Int => check.getD z.toNat 0) e1; rw [cellF_no (by omega)]), H⟩
          | exact ⟨_, res1 rfl rfl, congrArg (Value.int .i64) (by have e1 : IntKind.i64.wrap (base.getD s.toNat 0 + k) = base.getD s.toNat 0 + k := (by omega); have e2 : check.getD (IntKind.i64.wrap (base.getD s.toNat 0 + k)).toNat 0 = check.getD (base.getD s.toNat 0 + k).toNat 0 := congrArg (fun z : Int => check.getD z.toNat 0) e1; rw [cellF_yes (by omega), e1]), H⟩
    · have g23p := of_decide_eq_false g23
      refine wl_off rfl rfl g23 rfl ?_
      refine wl_off rfl rfl g23 rfl ?_
      refine wl_off rfl rfl g23 rfl ?_
      refine wl_v rfl rfl rfl (v_pick_f rfl g23 rfl) ?_
      refine wl_v rfl rfl rfl (v_move rfl) ?_
      refine wl_on' rfl rfl rfl ?_
      refine wl_v rfl rfl rfl (v_move rfl) ?_
      refine wl_on' rfl rfl rfl ?_
      refine wl_v rfl rfl rfl (v_gtr rfl rfl) ?_
      refine wl_v rfl rfl rfl (v_pick_f rfl rfl rfl) ?_
      refine wl_nil ?_
      refine wc_cond rfl (fun c1 => ?_) (fun c1 => ?_)
      · have c1p := of_decide_eq_true c1
        refine wc_seq ?_
        refine wc_region ?_
        refine wl_v rfl rfl rfl (v_assign rfl) ?_
        refine wl_nil ?_
        refine wc_ret ?_
        first
          | exact ⟨_, res1 rfl rfl, congrArg (Value.int .i64) (by rw [cellF_no (by omega)]), H⟩
          | exact ⟨_, res1 rfl rfl, congrArg (Value.int .i64) (by have e1 : IntKind.i64.wrap (base.getD s.toNat 0 + k) = base.getD s.toNat 0 + k := (by omega); have e2 : check.getD (IntKind.i64.wrap (base.getD s.toNat 0 + k)).toNat 0 = check.getD (base.getD s.toNat 0 + k).toNat 0 := congrArg (fun z : Int => check.getD z.toNat 0) e1; rw [cellF_no (by omega)]), H⟩
          | exact ⟨_, res1 rfl rfl, congrArg (Value.int .i64) (by have e1 : IntKind.i64.wrap (base.getD s.toNat 0 + k) = base.getD s.toNat 0 + k := (by omega); have e2 : check.getD (IntKind.i64.wrap (base.getD s.toNat 0 + k)).toNat 0 = check.getD (base.getD s.toNat 0 + k).toNat 0 := congrArg (fun z : Int => check.getD z.toNat 0) e1; rw [cellF_yes (by omega), e1]), H⟩
      · have c1p := of_decide_eq_false c1
        refine wc_skip ?_
        refine wc_seq ?_
        refine wc_region ?_
        refine wl_v rfl rfl rfl (v_move rfl) ?_
        refine wl_v rfl rfl rfl (v_move rfl) ?_
        refine wl_v rfl rfl rfl (v_add rfl rfl) ?_
        refine wl_v rfl rfl rfl (v_assign rfl) ?_
        refine wl_nil ?_
        refine wc_seq ?_
        refine wc_seq ?_
        refine wc_region ?_
        refine wl_v rfl rfl rfl (v_move rfl) ?_
        refine wl_v rfl rfl rfl (v_lss rfl rfl) ?_
        refine wl_v rfl rfl rfl (v_move rfl) ?_
        refine wl_guard rfl rfl rfl (fun g38 => ?_) (fun g38 => ?_)
        · have g38p := of_decide_eq_false g38
          refine wl_v rfl rfl rfl (v_move rfl) ?_
          refine wl_on' rfl rfl g38 ?_
          refine wl_v rfl rfl rfl (v_move rfl) ?_
          refine wl_on' rfl rfl g38 ?_
          refine wl_v rfl rfl rfl (v_len Try.underlying39 rfl) ?_
          refine wl_on' rfl rfl g38 ?_
          refine wl_v rfl rfl rfl (v_geq rfl rfl) ?_
          refine wl_v rfl rfl rfl (v_pick_f rfl g38 rfl) ?_
          refine wl_v rfl rfl rfl (v_move rfl) ?_
          refine wl_guard rfl rfl rfl (fun g44 => ?_) (fun g44 => ?_)
          · have g44p := of_decide_eq_false g44
            refine wl_v rfl rfl rfl (v_move rfl) ?_
            refine wl_on' rfl rfl g44 ?_
            refine wl_v rfl rfl rfl (v_move rfl) ?_
            refine wl_on' rfl rfl g44 ?_
            refine wl_v rfl rfl rfl (v_geq rfl rfl) ?_
            refine wl_v rfl rfl rfl (v_pick_f rfl g44 rfl) ?_
            refine wl_v rfl rfl rfl (v_move rfl) ?_
            refine wl_guard rfl rfl rfl (fun g49 => ?_) (fun g49 => ?_)
            · have g49p := of_decide_eq_false g49
              refine wl_v rfl rfl rfl (v_move rfl) ?_
              refine wl_on' rfl rfl g49 ?_
              refine wl_v rfl rfl rfl (v_move rfl) ?_
              refine wl_on' rfl rfl g49 ?_
              refine wl_v rfl rfl rfl (v_idx Try.underlying39 sz3 hc.ad rfl rfl (by omega) (by omega)) ?_
              refine wl_on' rfl rfl g49 ?_
              refine wl_v rfl rfl rfl (v_load one3 rfl (H.cell (hc.at1 (by omega) (by omega)))) ?_
              refine wl_on' rfl rfl g49 ?_
              refine wl_v rfl rfl rfl (v_move rfl) ?_
              refine wl_on' rfl rfl g49 ?_
              refine wl_v rfl rfl rfl (v_neq rfl rfl) ?_
              refine wl_v rfl rfl rfl (v_pick_f rfl g49 rfl) ?_
              refine wl_nil ?_
              refine wc_cond rfl (fun c2 => ?_) (fun c2 => ?_)
              · have c2p := of_nd_t c2
                refine wc_seq ?_
                refine wc_region ?_
                refine wl_v rfl rfl rfl (v_assign rfl) ?_
                refine wl_nil ?_
                refine wc_ret ?_
                first
                  | exact ⟨_, res1 rfl rfl, congrArg (Value.int .i64) (by rw [cellF_no (by omega)]), H⟩
                  | exact ⟨_, res1 rfl rfl, congrArg (Value.int .i64) (by have e1 : IntKind.i64.wrap (base.getD s.toNat 0 + k) = base.getD s.toNat 0 + k := (by omega); have e2 : check.getD (IntKind.i64.wrap (base.getD s.toNat 0 + k)).toNat 0 = check.getD (base.getD s.toNat 0 + k).toNat 0 := congrArg (fun z : Int => check.getD z.toNat 0) e1; rw [cellF_no (by omega)]), H⟩
                  | exact ⟨_, res1 rfl rfl, congrArg (Value.int .i64) (by have e1 : IntKind.i64.wrap (base.getD s.toNat 0 + k) = base.getD s.toNat 0 + k := (by omega); have e2 : check.getD (IntKind.i64.wrap (base.getD s.toNat 0 + k)).toNat 0 = check.getD (base.getD s.toNat 0 + k).toNat 0 := congrArg (fun z : Int => check.getD z.toNat 0) e1; rw [cellF_yes (by omega), e1]), H⟩
              · have c2p := of_nd_f c2
                refine wc_skip ?_
                refine wc_seq ?_
                refine wc_region ?_
                refine wl_v rfl rfl rfl (v_move rfl) ?_
                refine wl_v rfl rfl rfl (v_assign rfl) ?_
                refine wl_nil ?_
                refine wc_ret ?_
                first
                  | exact ⟨_, res1 rfl rfl, congrArg (Value.int .i64) (by rw [cellF_no (by omega)]), H⟩
                  | exact ⟨_, res1 rfl rfl, congrArg (Value.int .i64) (by have e1 : IntKind.i64.wrap (base.getD s.toNat 0 + k) = base.getD s.toNat 0 + k := (by omega); have e2 : check.getD (IntKind.i64.wrap (base.getD s.toNat 0 + k)).toNat 0 = check.getD (base.getD s.toNat 0 + k).toNat 0 := congrArg (fun z : Int => check.getD z.toNat 0) e1; rw [cellF_no (by omega)]), H⟩
                  | exact ⟨_, res1 rfl rfl, congrArg (Value.int .i64) (by have e1 : IntKind.i64.wrap (base.getD s.toNat 0 + k) = base.getD s.toNat 0 + k := (by omega); have e2 : check.getD (IntKind.i64.wrap (base.getD s.toNat 0 + k)).toNat 0 = check.getD (base.getD s.toNat 0 + k).toNat 0 := congrArg (fun z : Int => check.getD z.toNat 0) e1; rw [cellF_yes (by omega), e1]), H⟩
            · have g49p := of_decide_eq_true g49
              refine wl_off rfl rfl g49 rfl ?_
              refine wl_off rfl rfl g49 rfl ?_
              refine wl_off rfl rfl g49 rfl ?_
              refine wl_off rfl rfl g49 rfl ?_
              refine wl_off rfl rfl g49 rfl ?_
              refine wl_v rfl rfl rfl (v_pick_t rfl g49 rfl) ?_
              refine wl_nil ?_
              refine wc_cond_t rfl ?_
              refine wc_seq ?_
              refine wc_region ?_
              refine wl_v rfl rfl rfl (v_assign rfl) ?_
              refine wl_nil ?_
              refine wc_ret ?_
              first
                | exact ⟨_, res1 rfl rfl, congrArg (Value.int .i64) (by rw [cellF_no (by omega)]), H⟩
                | exact ⟨_, res1 rfl rfl, congrArg (Value.int .i64) (by have e1 : IntKind.i64.wrap (base.getD s.toNat 0 + k) = base.getD s.toNat 0 + k := (by omega); have e2 : check.getD (IntKind.i64.wrap (base.getD s.toNat 0 + k)).toNat 0 = check.getD (base.getD s.toNat 0 + k).toNat 0 := congrArg (fun z : Int => check.getD z.toNat 0) e1; rw [cellF_no (by omega)]), H⟩
                | exact ⟨_, res1 rfl rfl, congrArg (Value.int .i64) (by have e1 : IntKind.i64.wrap (base.getD s.toNat 0 + k) = base.getD s.toNat 0 + k := (by omega); have e2 : check.getD (IntKind.i64.wrap (base.getD s.toNat 0 + k)).toNat 0 = check.getD (base.getD s.toNat 0 + k).toNat 0 := congrArg (fun z : Int => check.getD z.toNat 0) e1; rw [cellF_yes (by omega), e1]), H⟩
          · have g44p := of_decide_eq_true g44
            refine wl_off rfl rfl g44 rfl ?_
            refine wl_off rfl rfl g44 rfl ?_
            refine wl_v rfl rfl rfl (v_pick_t rfl g44 rfl) ?_
            refine wl_v rfl rfl rfl (v_move rfl) ?_
            refine wl_off rfl rfl rfl rfl ?_
            refine wl_off rfl rfl rfl rfl ?_
            refine wl_off rfl rfl rfl rfl ?_
            refine wl_off rfl rfl rfl rfl ?_
            refine wl_off rfl rfl rfl rfl ?_
            refine wl_off rfl rfl rfl rfl ?_
            refine wl_v rfl rfl rfl (v_pick_t rfl rfl rfl) ?_
            refine wl_nil ?_
            refine wc_cond_t rfl ?_
            refine wc_seq ?_
            refine wc_region ?_
            refine wl_v rfl rfl rfl (v_assign rfl) ?_
            refine wl_nil ?_
            refine wc_ret ?_
            first
              | exact ⟨_, res1 rfl rfl, congrArg (Value.int .i64) (by rw [cellF_no (by omega)]), H⟩
              | exact ⟨_, res1 rfl rfl, congrArg (Value.int .i64) (by have e1 : IntKind.i64.wrap (base.getD s.toNat 0 + k) = base.getD s.toNat 0 + k := (by omega); have e2 : check.getD (IntKind.i64.wrap (base.getD s.toNat 0 + k)).toNat 0 = check.getD (base.getD s.toNat 0 + k).toNat 0 := congrArg (fun z : Int => check.getD z.toNat 0) e1; rw [cellF_no (by omega)]), H⟩
              | exact ⟨_, res1 rfl rfl, congrArg (Value.int .i64) (by have e1 : IntKind.i64.wrap (base.getD s.toNat 0 + k) = base.getD s.toNat 0 + k := (by omega); have e2 : check.getD (IntKind.i64.wrap (base.getD s.toNat 0 + k)).toNat 0 = check.getD (base.getD s.toNat 0 + k).toNat 0 := congrArg (fun z : Int => check.getD z.toNat 0) e1; rw [cellF_yes (by omega), e1]), H⟩
        · have g38p := of_decide_eq_true g38
          refine wl_off rfl rfl g38 rfl ?_
          refine wl_off rfl rfl g38 rfl ?_
          refine wl_off rfl rfl g38 rfl ?_
          refine wl_v rfl rfl rfl (v_pick_t rfl g38 rfl) ?_
          refine wl_v rfl rfl rfl (v_move rfl) ?_
          refine wl_off rfl rfl rfl rfl ?_
          refine wl_off rfl rfl rfl rfl ?_
          refine wl_off rfl rfl rfl rfl ?_
          refine wl_v rfl rfl rfl (v_pick_t rfl rfl rfl) ?_
          refine wl_v rfl rfl rfl (v_move rfl) ?_
          refine wl_off rfl rfl rfl rfl ?_
          refine wl_off rfl rfl rfl rfl ?_
          refine wl_off rfl rfl rfl rfl ?_
          refine wl_off rfl rfl rfl rfl ?_
          refine wl_off rfl rfl rfl rfl ?_
          refine wl_off rfl rfl rfl rfl ?_
          refine wl_v rfl rfl rfl (v_pick_t rfl rfl rfl) ?_
          refine wl_nil ?_
          refine wc_cond_t rfl ?_
          refine wc_seq ?_
          refine wc_region ?_
          refine wl_v rfl rfl rfl (v_assign rfl) ?_
          refine wl_nil ?_
          refine wc_ret ?_
          first
            | exact ⟨_, res1 rfl rfl, congrArg (Value.int .i64) (by rw [cellF_no (by omega)]), H⟩
            | exact ⟨_, res1 rfl rfl, congrArg (Value.int .i64) (by have e1 : IntKind.i64.wrap (base.getD s.toNat 0 + k) = base.getD s.toNat 0 + k := (by omega); have e2 : check.getD (IntKind.i64.wrap (base.getD s.toNat 0 + k)).toNat 0 = check.getD (base.getD s.toNat 0 + k).toNat 0 := congrArg (fun z : Int => check.getD z.toNat 0) e1; rw [cellF_no (by omega)]), H⟩
            | exact ⟨_, res1 rfl rfl, congrArg (Value.int .i64) (by have e1 : IntKind.i64.wrap (base.getD s.toNat 0 + k) = base.getD s.toNat 0 + k := (by omega); have e2 : check.getD (IntKind.i64.wrap (base.getD s.toNat 0 + k)).toNat 0 = check.getD (base.getD s.toNat 0 + k).toNat 0 := congrArg (fun z : Int => check.getD z.toNat 0) e1; rw [cellF_yes (by omega), e1]), H⟩

set_option maxRecDepth 100000 in
theorem rmove2_calls {a : PkA} {p : Pk} {s k : Int} {w : World} (hp : p.rd w a) (hk : p.ok) (is : I64 s) (ik : I64 k) :
    Calls Try.prog 24 #[p.val a, .int .i64 s, .int .i64 k] w fun e w' => ∃ v, e = .returned v ∧ v = .agg (fMv.enc (lookMv p s k)).toArray ∧ Holds w [] w' := by
  have q1 := hk.d
  have q2 := hk.b
  have q3 := hk.c
  have q4 := hk.e
  have q5 := hk.gb
  have q6 := hk.gc
  have q7 := hk.ge
  unfold I64 at is ik
  refine calls_of Try.func24 rfl Try.ntmps24 rfl ?_
  have H := Holds.start w
  refine wc_seq ?_
  refine wc_region ?_
  refine wl_box (cs := [_, _, _, _, _, _, _, _, _]) H rfl rfl rfl ?_
  intro b3 w1 hb3 H2
  refine wl_alloc (cs := [.int .i64 0, .int .i64 0]) H2 rfl zv48 rfl ?_
  intro b6 w3 hb6 H4
  refine wl_nil ?_
  refine wc_seq ?_
  refine wc_seq ?_
  refine wc_region ?_
  refine wl_v rfl rfl rfl (v_move rfl) ?_
  refine wl_v rfl rfl rfl (v_lss rfl rfl) ?_
  refine wl_v rfl rfl rfl (v_move rfl) ?_
  refine wl_guard rfl rfl rfl (fun g10 => ?_) (fun g10 => ?_)
  · have g10p := of_decide_eq_false g10
    refine wl_v rfl rfl rfl (v_move rfl) ?_
    refine wl_on' rfl rfl g10 ?_
    refine wl_v rfl rfl rfl (v_fb (o2 := 2) fa41_2 rfl rfl) ?_
    refine wl_on' rfl rfl g10 ?_
    refine wl_v rfl rfl rfl (v_load one38 rfl (H4.at (by repeat constructor) rfl)) ?_
    refine wl_on' rfl rfl g10 ?_
    refine wl_v rfl rfl rfl (v_len Try.underlying38 rfl) ?_
    refine wl_on' rfl rfl g10 ?_
    refine wl_v rfl rfl rfl (v_geq rfl rfl) ?_
    refine wl_v rfl rfl rfl (v_pick_f rfl g10 rfl) ?_
    refine wl_v rfl rfl rfl (v_move rfl) ?_
    refine wl_guard rfl rfl rfl (fun g17 => ?_) (fun g17 => ?_)
    · have g17p := of_decide_eq_false g17
      refine wl_v rfl rfl rfl (v_move rfl) ?_
      refine wl_on' rfl rfl g17 ?_
      refine wl_v rfl rfl rfl (v_lss rfl rfl) ?_
      refine wl_v rfl rfl rfl (v_pick_f rfl g17 rfl) ?_
      refine wl_v rfl rfl rfl (v_move rfl) ?_
      refine wl_guard rfl rfl rfl (fun g21 => ?_) (fun g21 => ?_)
      · have g21p := of_decide_eq_false g21
        refine wl_v rfl rfl rfl (v_move rfl) ?_
        refine wl_on' rfl rfl g21 ?_
        refine wl_v rfl rfl rfl (v_fb (o2 := 0) fa41_0 rfl rfl) ?_
        refine wl_on' rfl rfl g21 ?_
        refine wl_v rfl rfl rfl (v_load one3 rfl (H4.at (by repeat constructor) rfl)) ?_
        refine wl_on' rfl rfl g21 ?_
        refine wl_v rfl rfl rfl (v_geq rfl rfl) ?_
        refine wl_v rfl rfl rfl (v_pick_f rfl g21 rfl) ?_
        refine wl_nil ?_
        refine wc_cond rfl (fun c0 => ?_) (fun c0 => ?_)
        · have c0p := of_decide_eq_true c0
          refine wc_seq ?_
          refine wc_region ?_
          refine wl_v rfl rfl rfl (v_bld ba48 rfl (by repeat constructor)) ?_
          refine wl_store (vs := [_, _]) H4 (by repeat constructor) sz48 rfl rfl rfl rfl rfl (by repeat constructor) ?_
          intro w5 H6 hw5
          refine wl_nil ?_
          refine wc_ret ?_
          first
            | exact ⟨_, resc rfl rfl (run_loadVarN agg48 rfl (H6.ats (by repeat constructor))), by rw [lookMv, if_pos (by omega)]; rfl, H6.pm (by repeat constructor)⟩
            | exact ⟨_, resc rfl rfl (run_loadVarN agg48 rfl (H6.ats (by repeat constructor))), by rw [lookMv, if_neg (by omega), if_pos (by omega)]; rfl, H6.pm (by repeat constructor)⟩
            | exact ⟨_, resc rfl rfl (run_loadVarN agg48 rfl (H6.ats (by repeat constructor))), by rw [lookMv, if_neg (by omega), if_neg (by omega)]; rfl, H6.pm (by repeat constructor)⟩
        · have c0p := of_decide_eq_false c0
          refine wc_skip ?_
          refine wc_seq ?_
          refine wc_region ?_
          refine wl_v rfl rfl rfl (v_fb (o2 := 3) fa41_3 rfl rfl) ?_
          refine wl_v rfl rfl rfl (v_load one39 rfl (H4.at (by repeat constructor) rfl)) ?_
          refine wl_v rfl rfl rfl (v_fb (o2 := 4) fa41_4 rfl rfl) ?_
          refine wl_v rfl rfl rfl (v_load one39 rfl (H4.at (by repeat constructor) rfl)) ?_
          refine wl_v rfl rfl rfl (v_move rfl) ?_
          refine wl_v rfl rfl rfl (v_move rfl) ?_
          refine wl_v rfl rfl rfl (v_fb (o2 := 5) fa41_5 rfl rfl) ?_
          refine wl_v rfl rfl rfl (v_load one38 rfl (H4.at (by repeat constructor) rfl)) ?_
          refine wl_v rfl rfl rfl (v_len Try.underlying38 rfl) ?_
          refine wl_call en51 rfl rfl (there_calls (hp.b.below H4.old) (hp.c.below H4.old) hk.b hk.c hk.ib (by omega) (by omega) (by omega)) ?_
          rintro _ w7 ⟨rfl, Hc⟩
          have H8 := H4.call Hc
          have hlt := cellF_lt (base := p.base) (check := p.check) (cells := p.cell.length) (s := s) (k := k)
          refine wl_v rfl rfl rfl (v_assign rfl) ?_
          refine wl_nil ?_
          refine wc_seq ?_
          refine wc_seq ?_
          refine wc_region ?_
          refine wl_v rfl rfl rfl (v_move rfl) ?_
          refine wl_v rfl rfl rfl (v_lss rfl rfl) ?_
          refine wl_nil ?_
          refine wc_cond rfl (fun c1 => ?_) (fun c1 => ?_)
          · have c1p := of_decide_eq_true c1
            refine wc_seq ?_
            refine wc_region ?_
            refine wl_v rfl rfl rfl (v_fb (o2 := 2) fa41_2 rfl rfl) ?_
            refine wl_v rfl rfl rfl (v_load one38 rfl (H8.at (by repeat constructor) rfl)) ?_
            refine wl_v rfl rfl rfl (v_move rfl) ?_
            refine wl_v rfl rfl rfl (v_idx Try.underlying38 sz48 hp.d.ad rfl rfl (by omega) (by omega)) ?_
            refine wl_v rfl rfl rfl (v_loadN (cs := fMv.enc _) agg48 rfl rfl (fun k u hu => H8.cell (hp.d.at (k := k) mv0 (by omega) (by omega) hu))) ?_
            refine wl_store (vs := [_, _]) H8 (by repeat constructor) sz48 rfl rfl rfl rfl rfl (by repeat constructor) ?_
            intro w9 H10 hw9
            refine wl_nil ?_
            refine wc_ret ?_
            first
              | exact ⟨_, resc rfl rfl (run_loadVarN agg48 rfl (H10.ats (by repeat constructor))), by rw [lookMv, if_pos (by omega)]; rfl, H10.pm (by repeat constructor)⟩
              | exact ⟨_, resc rfl rfl (run_loadVarN agg48 rfl (H10.ats (by repeat constructor))), by rw [lookMv, if_neg (by omega), if_pos (by omega)]; rfl, H10.pm (by repeat constructor)⟩
              | exact ⟨_, resc rfl rfl (run_loadVarN agg48 rfl (H10.ats (by repeat constructor))), by rw [lookMv, if_neg (by omega), if_neg (by omega)]; rfl, H10.pm (by repeat constructor)⟩
          · have c1p := of_decide_eq_false c1
            refine wc_skip ?_
            refine wc_seq ?_
            refine wc_region ?_
            refine wl_v rfl rfl rfl (v_fb (o2 := 5) fa41_5 rfl rfl) ?_
            refine wl_v rfl rfl rfl (v_load one38 rfl (H8.at (by repeat constructor) rfl)) ?_
            refine wl_v rfl rfl rfl (v_move rfl) ?_
            refine wl_v rfl rfl rfl (v_idx Try.underlying38 sz48 hp.e.ad rfl rfl (by omega) (by omega)) ?_
            refine wl_v rfl rfl rfl (v_loadN (cs := fMv.enc _) agg48 rfl rfl (fun k u hu => H8.cell (hp.e.at (k := k) mv0 (by omega) (by omega) hu))) ?_
            refine wl_store (vs := [_, _]) H8 (by repeat constructor) sz48 rfl rfl rfl rfl rfl (by repeat constructor) ?_
            intro w11 H12 hw11
            refine wl_nil ?_
            refine wc_ret ?_
            first
              | exact ⟨_, resc rfl rfl (run_loadVarN agg48 rfl (H12.ats (by repeat constructor))), by rw [lookMv, if_pos (by omega)]; rfl, H12.pm (by repeat constructor)⟩
              | exact ⟨_, resc rfl rfl (run_loadVarN agg48 rfl (H12.ats (by repeat constructor))), by rw [lookMv, if_neg (by omega), if_pos (by omega)]; rfl, H12.pm (by repeat constructor)⟩
              | exact ⟨_, resc rfl rfl (run_loadVarN agg48 rfl (H12.ats (by repeat constructor))), by rw [lookMv, if_neg (by omega), if_neg (by omega)]; rfl, H12.pm (by repeat constructor)⟩
      · have g21p := of_decide_eq_true g21
        refine wl_off rfl rfl g21 rfl ?_
        refine wl_off rfl rfl g21 rfl ?_
        refine wl_off rfl rfl g21 rfl ?_
        refine wl_v rfl rfl rfl (v_pick_t rfl g21 rfl) ?_
        refine wl_nil ?_
        refine wc_cond_t rfl ?_
        refine wc_seq ?_
        refine wc_region ?_
        refine wl_v rfl rfl rfl (v_bld ba48 rfl (by repeat constructor)) ?_
        refine wl_store (vs := [_, _]) H4 (by repeat constructor) sz48 rfl rfl rfl rfl rfl (by repeat constructor) ?_
        intro w13 H14 hw13
        refine wl_nil ?_
        refine wc_ret ?_
        first
          | exact ⟨_, resc rfl rfl (run_loadVarN agg48 rfl (H14.ats (by repeat constructor))), by rw [lookMv, if_pos (by omega)]; rfl, H14.pm (by repeat constructor)⟩
          | exact ⟨_, resc rfl rfl (run_loadVarN agg48 rfl (H14.ats (by repeat constructor))), by rw [lookMv, if_neg (by omega), if_pos (by omega)]; rfl, H14.pm (by repeat constructor)⟩
          | exact ⟨_, resc rfl rfl (run_loadVarN agg48 rfl (H14.ats (by repeat constructor))), by rw [lookMv, if_neg (by omega), if_neg (by omega)]; rfl, H14.pm (by repeat constructor)⟩
    · have g17p := of_decide_eq_true g17
      refine wl_off rfl rfl g17 rfl ?_
      refine wl_v rfl rfl rfl (v_pick_t rfl g17 rfl) ?_
      refine wl_v rfl rfl rfl (v_move rfl) ?_
      refine wl_off rfl rfl rfl rfl ?_
      refine wl_off rfl rfl rfl rfl ?_
      refine wl_off rfl rfl rfl rfl ?_
      refine wl_off rfl rfl rfl rfl ?_
      refine wl_v rfl rfl rfl (v_pick_t rfl rfl rfl) ?_
      refine wl_nil ?_
      refine wc_cond_t rfl ?_
      refine wc_seq ?_
      refine wc_region ?_
      refine wl_v rfl rfl rfl (v_bld ba48 rfl (by repeat constructor)) ?_
      refine wl_store (vs := [_, _]) H4 (by repeat constructor) sz48 rfl rfl rfl rfl rfl (by repeat constructor) ?_
      intro w15 H16 hw15
      refine wl_nil ?_
      refine wc_ret ?_
      first
        | exact ⟨_, resc rfl rfl (run_loadVarN agg48 rfl (H16.ats (by repeat constructor))), by rw [lookMv, if_pos (by omega)]; rfl, H16.pm (by repeat constructor)⟩
        | exact ⟨_, resc rfl rfl (run_loadVarN agg48 rfl (H16.ats (by repeat constructor))), by rw [lookMv, if_neg (by omega), if_pos (by omega)]; rfl, H16.pm (by repeat constructor)⟩
        | exact ⟨_, resc rfl rfl (run_loadVarN agg48 rfl (H16.ats (by repeat constructor))), by rw [lookMv, if_neg (by omega), if_neg (by omega)]; rfl, H16.pm (by repeat constructor)⟩
  · have g10p := of_decide_eq_true g10
    refine wl_off rfl rfl g10 rfl ?_
    refine wl_off rfl rfl g10 rfl ?_
    refine wl_off rfl rfl g10 rfl ?_
    refine wl_off rfl rfl g10 rfl ?_
    refine wl_v rfl rfl rfl (v_pick_t rfl g10 rfl) ?_
    refine wl_v rfl rfl rfl (v_move rfl) ?_
    refine wl_off rfl rfl rfl rfl ?_
    refine wl_off rfl rfl rfl rfl ?_
    refine wl_v rfl rfl rfl (v_pick_t rfl rfl rfl) ?_
    refine wl_v rfl rfl rfl (v_move rfl) ?_
    refine wl_off rfl rfl rfl rfl ?_
    refine wl_off rfl rfl rfl rfl ?_
    refine wl_off rfl rfl rfl rfl ?_
    refine wl_off rfl rfl rfl rfl ?_
    refine wl_v rfl rfl rfl (v_pick_t rfl rfl rfl) ?_
    refine wl_nil ?_
    refine wc_cond_t rfl ?_
    refine wc_seq ?_
    refine wc_region ?_
    refine wl_v rfl rfl rfl (v_bld ba48 rfl (by repeat constructor)) ?_
    refine wl_store (vs := [_, _]) H4 (by repeat constructor) sz48 rfl rfl rfl rfl rfl (by repeat constructor) ?_
    intro w17 H18 hw17
    refine wl_nil ?_
    refine wc_ret ?_
    first
      | exact ⟨_, resc rfl rfl (run_loadVarN agg48 rfl (H18.ats (by repeat constructor))), by rw [lookMv, if_pos (by omega)]; rfl, H18.pm (by repeat constructor)⟩
      | exact ⟨_, resc rfl rfl (run_loadVarN agg48 rfl (H18.ats (by repeat constructor))), by rw [lookMv, if_neg (by omega), if_pos (by omega)]; rfl, H18.pm (by repeat constructor)⟩
      | exact ⟨_, resc rfl rfl (run_loadVarN agg48 rfl (H18.ats (by repeat constructor))), by rw [lookMv, if_neg (by omega), if_neg (by omega)]; rfl, H18.pm (by repeat constructor)⟩

set_option maxRecDepth 100000 in
theorem move2_calls {a : PkA} {p : Pk} {s k : Int} {w : World} (hp : p.rd w a) (hk : p.ok) (is : I64 s) (ik : I64 k) :
    Calls Try.prog 23 #[p.val a, .int .i64 s, .int .i64 k] w fun e w' => ∃ v, e = .returned v ∧ v = .agg (fMv.enc (lookMv p s k)).toArray ∧ Holds w [] w' := by
  have q1 := hk.d
  have q2 := hk.b
  have q3 := hk.c
  have q4 := hk.e
  have q5 := hk.gb
  have q6 := hk.gc
  have q7 := hk.ge
  unfold I64 at is ik
  refine calls_of Try.func23 rfl Try.ntmps23 rfl ?_
  have H := Holds.start w
  refine wc_seq ?_
  refine wc_region ?_
  refine wl_box (cs := [_, _, _, _, _, _, _, _, _]) H rfl rfl rfl ?_
  intro b3 w1 hb3 H2
  refine wl_alloc (cs := [.int .i64 0, .int .i64 0]) H2 rfl zv48 rfl ?_
  intro b6 w3 hb6 H4
  refine wl_nil ?_
  refine wc_seq ?_
  refine wc_seq ?_
  refine wc_region ?_
  refine wl_v rfl rfl rfl (v_move rfl) ?_
  refine wl_v rfl rfl rfl (v_lss rfl rfl) ?_
  refine wl_v rfl rfl rfl (v_move rfl) ?_
  refine wl_guard rfl rfl rfl (fun g10 => ?_) (fun g10 => ?_)
  · have g10p := of_decide_eq_false g10
    refine wl_v rfl rfl rfl (v_move rfl) ?_
    refine wl_on' rfl rfl g10 ?_
    refine wl_v rfl rfl rfl (v_fb (o2 := 2) fa41_2 rfl rfl) ?_
    refine wl_on' rfl rfl g10 ?_
    refine wl_v rfl rfl rfl (v_load one38 rfl (H4.at (by repeat constructor) rfl)) ?_
    refine wl_on' rfl rfl g10 ?_
    refine wl_v rfl rfl rfl (v_len Try.underlying38 rfl) ?_
    refine wl_on' rfl rfl g10 ?_
    refine wl_v rfl rfl rfl (v_geq rfl rfl) ?_
    refine wl_v rfl rfl rfl (v_pick_f rfl g10 rfl) ?_
    refine wl_v rfl rfl rfl (v_move rfl) ?_
    refine wl_guard rfl rfl rfl (fun g17 => ?_) (fun g17 => ?_)
    · have g17p := of_decide_eq_false g17
      refine wl_v rfl rfl rfl (v_move rfl) ?_
      refine wl_on' rfl rfl g17 ?_
      refine wl_v rfl rfl rfl (v_lss rfl rfl) ?_
      refine wl_v rfl rfl rfl (v_pick_f rfl g17 rfl) ?_
      refine wl_v rfl rfl rfl (v_move rfl) ?_
      refine wl_guard rfl rfl rfl (fun g21 => ?_) (fun g21 => ?_)
      · have g21p := of_decide_eq_false g21
        refine wl_v rfl rfl rfl (v_move rfl) ?_
        refine wl_on' rfl rfl g21 ?_
        refine wl_v rfl rfl rfl (v_fb (o2 := 0) fa41_0 rfl rfl) ?_
        refine wl_on' rfl rfl g21 ?_
        refine wl_v rfl rfl rfl (v_load one3 rfl (H4.at (by repeat constructor) rfl)) ?_
        refine wl_on' rfl rfl g21 ?_
        refine wl_v rfl rfl rfl (v_geq rfl rfl) ?_
        refine wl_v rfl rfl rfl (v_pick_f rfl g21 rfl) ?_
        refine wl_nil ?_
        refine wc_cond rfl (fun c0 => ?_) (fun c0 => ?_)
        · have c0p := of_decide_eq_true c0
          refine wc_seq ?_
          refine wc_region ?_
          refine wl_v rfl rfl rfl (v_bld ba48 rfl (by repeat constructor)) ?_
          refine wl_store (vs := [_, _]) H4 (by repeat constructor) sz48 rfl rfl rfl rfl rfl (by repeat constructor) ?_
          intro w5 H6 hw5
          refine wl_nil ?_
          refine wc_ret ?_
          first
            | exact ⟨_, resc rfl rfl (run_loadVarN agg48 rfl (H6.ats (by repeat constructor))), by rw [lookMv, if_pos (by omega)]; rfl, H6.pm (by repeat constructor)⟩
            | exact ⟨_, resc rfl rfl (run_loadVarN agg48 rfl (H6.ats (by repeat constructor))), by rw [lookMv, if_neg (by omega), if_pos (by omega)]; rfl, H6.pm (by repeat constructor)⟩
            | exact ⟨_, resc rfl rfl (run_loadVarN agg48 rfl (H6.ats (by repeat constructor))), by rw [lookMv, if_neg (by omega), if_neg (by omega)]; rfl, H6.pm (by repeat constructor)⟩
        · have c0p := of_decide_eq_false c0
          refine wc_skip ?_
          refine wc_seq ?_
          refine wc_seq ?_
          refine wc_region ?_
          refine wl_v rfl rfl rfl (v_fb (o2 := 3) fa41_3 rfl rfl) ?_
          refine wl_v rfl rfl rfl (v_load one39 rfl (H4.at (by repeat constructor) rfl)) ?_
          refine wl_v rfl rfl rfl (v_fb (o2 := 4) fa41_4 rfl rfl) ?_
          refine wl_v rfl rfl rfl (v_load one39 rfl (H4.at (by repeat constructor) rfl)) ?_
          refine wl_v rfl rfl rfl (v_fb (o2 := 5) fa41_5 rfl rfl) ?_
          refine wl_v rfl rfl rfl (v_load one38 rfl (H4.at (by repeat constructor) rfl)) ?_
          refine wl_v rfl rfl rfl (v_len Try.underlying38 rfl) ?_
          refine wl_v rfl rfl rfl (v_move rfl) ?_
          refine wl_v rfl rfl rfl (v_move rfl) ?_
          refine wl_call en50 rfl rfl (cell_calls (hp.b.below H4.old) (hp.c.below H4.old) hk.b hk.c hk.ib (by omega) (by omega) (by omega)) ?_
          rintro _ w7 ⟨rfl, Hc⟩
          have H8 := H4.call Hc
          have hlt := cellF_lt (base := p.base) (check := p.check) (cells := p.cell.length) (s := s) (k := k)
          refine wl_v rfl rfl rfl (v_assign rfl) ?_
          refine wl_nil ?_
          refine wc_seq ?_
          refine wc_region ?_
          refine wl_v rfl rfl rfl (v_move rfl) ?_
          refine wl_v rfl rfl rfl (v_geq rfl rfl) ?_
          refine wl_nil ?_
          refine wc_cond rfl (fun c1 => ?_) (fun c1 => ?_)
          · have c1p := of_decide_eq_true c1
            refine wc_seq ?_
            refine wc_region ?_
            refine wl_v rfl rfl rfl (v_fb (o2 := 5) fa41_5 rfl rfl) ?_
            refine wl_v rfl rfl rfl (v_load one38 rfl (H8.at (by repeat constructor) rfl)) ?_
            refine wl_v rfl rfl rfl (v_move rfl) ?_
            refine wl_v rfl rfl rfl (v_idx Try.underlying38 sz48 hp.e.ad rfl rfl (by omega) (by omega)) ?_
            refine wl_v rfl rfl rfl (v_loadN (cs := fMv.enc _) agg48 rfl rfl (fun k u hu => H8.cell (hp.e.at (k := k) mv0 (by omega) (by omega) hu))) ?_
            refine wl_store (vs := [_, _]) H8 (by repeat constructor) sz48 rfl rfl rfl rfl rfl (by repeat constructor) ?_
            intro w9 H10 hw9
            refine wl_nil ?_
            refine wc_ret ?_
            first
              | exact ⟨_, resc rfl rfl (run_loadVarN agg48 rfl (H10.ats (by repeat constructor))), by rw [lookMv, if_pos (by omega)]; rfl, H10.pm (by repeat constructor)⟩
              | exact ⟨_, resc rfl rfl (run_loadVarN agg48 rfl (H10.ats (by repeat constructor))), by rw [lookMv, if_neg (by omega), if_pos (by omega)]; rfl, H10.pm (by repeat constructor)⟩
              | exact ⟨_, resc rfl rfl (run_loadVarN agg48 rfl (H10.ats (by repeat constructor))), by rw [lookMv, if_neg (by omega), if_neg (by omega)]; rfl, H10.pm (by repeat constructor)⟩
          · have c1p := of_decide_eq_false c1
            refine wc_skip ?_
            refine wc_seq ?_
            refine wc_region ?_
            refine wl_v rfl rfl rfl (v_fb (o2 := 2) fa41_2 rfl rfl) ?_
            refine wl_v rfl rfl rfl (v_load one38 rfl (H8.at (by repeat constructor) rfl)) ?_
            refine wl_v rfl rfl rfl (v_move rfl) ?_
            refine wl_v rfl rfl rfl (v_idx Try.underlying38 sz48 hp.d.ad rfl rfl (by omega) (by omega)) ?_
            refine wl_v rfl rfl rfl (v_loadN (cs := fMv.enc _) agg48 rfl rfl (fun k u hu => H8.cell (hp.d.at (k := k) mv0 (by omega) (by omega) hu))) ?_
            refine wl_store (vs := [_, _]) H8 (by repeat constructor) sz48 rfl rfl rfl rfl rfl (by repeat constructor) ?_
            intro w11 H12 hw11
            refine wl_nil ?_
            refine wc_ret ?_
            first
              | exact ⟨_, resc rfl rfl (run_loadVarN agg48 rfl (H12.ats (by repeat constructor))), by rw [lookMv, if_pos (by omega)]; rfl, H12.pm (by repeat constructor)⟩
              | exact ⟨_, resc rfl rfl (run_loadVarN agg48 rfl (H12.ats (by repeat constructor))), by rw [lookMv, if_neg (by omega), if_pos (by omega)]; rfl, H12.pm (by repeat constructor)⟩
              | exact ⟨_, resc rfl rfl (run_loadVarN agg48 rfl (H12.ats (by repeat constructor))), by rw [lookMv, if_neg (by omega), if_neg (by omega)]; rfl, H12.pm (by repeat constructor)⟩
      · have g21p := of_decide_eq_true g21
        refine wl_off rfl rfl g21 rfl ?_
        refine wl_off rfl rfl g21 rfl ?_
        refine wl_off rfl rfl g21 rfl ?_
        refine wl_v rfl rfl rfl (v_pick_t rfl g21 rfl) ?_
        refine wl_nil ?_
        refine wc_cond_t rfl ?_
        refine wc_seq ?_
        refine wc_region ?_
        refine wl_v rfl rfl rfl (v_bld ba48 rfl (by repeat constructor)) ?_
        refine wl_store (vs := [_, _]) H4 (by repeat constructor) sz48 rfl rfl rfl rfl rfl (by repeat constructor) ?_
        intro w13 H14 hw13
        refine wl_nil ?_
        refine wc_ret ?_
        first
          | exact ⟨_, resc rfl rfl (run_loadVarN agg48 rfl (H14.ats (by repeat constructor))), by rw [lookMv, if_pos (by omega)]; rfl, H14.pm (by repeat constructor)⟩
          | exact ⟨_, resc rfl rfl (run_loadVarN agg48 rfl (H14.ats (by repeat constructor))), by rw [lookMv, if_neg (by omega), if_pos (by omega)]; rfl, H14.pm (by repeat constructor)⟩
          | exact ⟨_, resc rfl rfl (run_loadVarN agg48 rfl (H14.ats (by repeat constructor))), by rw [lookMv, if_neg (by omega), if_neg (by omega)]; rfl, H14.pm (by repeat constructor)⟩
    · have g17p := of_decide_eq_true g17
      refine wl_off rfl rfl g17 rfl ?_
      refine wl_v rfl rfl rfl (v_pick_t rfl g17 rfl) ?_
      refine wl_v rfl rfl rfl (v_move rfl) ?_
      refine wl_off rfl rfl rfl rfl ?_
      refine wl_off rfl rfl rfl rfl ?_
      refine wl_off rfl rfl rfl rfl ?_
      refine wl_off rfl rfl rfl rfl ?_
      refine wl_v rfl rfl rfl (v_pick_t rfl rfl rfl) ?_
      refine wl_nil ?_
      refine wc_cond_t rfl ?_
      refine wc_seq ?_
      refine wc_region ?_
      refine wl_v rfl rfl rfl (v_bld ba48 rfl (by repeat constructor)) ?_
      refine wl_store (vs := [_, _]) H4 (by repeat constructor) sz48 rfl rfl rfl rfl rfl (by repeat constructor) ?_
      intro w15 H16 hw15
      refine wl_nil ?_
      refine wc_ret ?_
      first
        | exact ⟨_, resc rfl rfl (run_loadVarN agg48 rfl (H16.ats (by repeat constructor))), by rw [lookMv, if_pos (by omega)]; rfl, H16.pm (by repeat constructor)⟩
        | exact ⟨_, resc rfl rfl (run_loadVarN agg48 rfl (H16.ats (by repeat constructor))), by rw [lookMv, if_neg (by omega), if_pos (by omega)]; rfl, H16.pm (by repeat constructor)⟩
        | exact ⟨_, resc rfl rfl (run_loadVarN agg48 rfl (H16.ats (by repeat constructor))), by rw [lookMv, if_neg (by omega), if_neg (by omega)]; rfl, H16.pm (by repeat constructor)⟩
  · have g10p := of_decide_eq_true g10
    refine wl_off rfl rfl g10 rfl ?_
    refine wl_off rfl rfl g10 rfl ?_
    refine wl_off rfl rfl g10 rfl ?_
    refine wl_off rfl rfl g10 rfl ?_
    refine wl_v rfl rfl rfl (v_pick_t rfl g10 rfl) ?_
    refine wl_v rfl rfl rfl (v_move rfl) ?_
    refine wl_off rfl rfl rfl rfl ?_
    refine wl_off rfl rfl rfl rfl ?_
    refine wl_v rfl rfl rfl (v_pick_t rfl rfl rfl) ?_
    refine wl_v rfl rfl rfl (v_move rfl) ?_
    refine wl_off rfl rfl rfl rfl ?_
    refine wl_off rfl rfl rfl rfl ?_
    refine wl_off rfl rfl rfl rfl ?_
    refine wl_off rfl rfl rfl rfl ?_
    refine wl_v rfl rfl rfl (v_pick_t rfl rfl rfl) ?_
    refine wl_nil ?_
    refine wc_cond_t rfl ?_
    refine wc_seq ?_
    refine wc_region ?_
    refine wl_v rfl rfl rfl (v_bld ba48 rfl (by repeat constructor)) ?_
    refine wl_store (vs := [_, _]) H4 (by repeat constructor) sz48 rfl rfl rfl rfl rfl (by repeat constructor) ?_
    intro w17 H18 hw17
    refine wl_nil ?_
    refine wc_ret ?_
    first
      | exact ⟨_, resc rfl rfl (run_loadVarN agg48 rfl (H18.ats (by repeat constructor))), by rw [lookMv, if_pos (by omega)]; rfl, H18.pm (by repeat constructor)⟩
      | exact ⟨_, resc rfl rfl (run_loadVarN agg48 rfl (H18.ats (by repeat constructor))), by rw [lookMv, if_neg (by omega), if_pos (by omega)]; rfl, H18.pm (by repeat constructor)⟩
      | exact ⟨_, resc rfl rfl (run_loadVarN agg48 rfl (H18.ats (by repeat constructor))), by rw [lookMv, if_neg (by omega), if_neg (by omega)]; rfl, H18.pm (by repeat constructor)⟩

set_option maxRecDepth 100000 in
theorem rgoto_calls {a : PkA} {p : Pk} {s k : Int} {w : World} (hp : p.rd w a) (hk : p.ok) (is : I64 s) (ik : I64 k) :
    Calls Try.prog 26 #[p.val a, .int .i64 s, .int .i64 k] w fun e w' => ∃ v, e = .returned v ∧ v = .int .i64 (lookGo p s k) ∧ Holds w [] w' := by
  have q1 := hk.d
  have q2 := hk.b
  have q3 := hk.c
  have q4 := hk.e
  have q5 := hk.gb
  have q6 := hk.gc
  have q7 := hk.ge
  unfold I64 at is ik
  refine calls_of Try.func26 rfl Try.ntmps26 rfl ?_
  have H := Holds.start w
  refine wc_seq ?_
  refine wc_region ?_
  refine wl_box (cs := [_, _, _, _, _, _, _, _, _]) H rfl rfl rfl ?_
  intro b3 w1 hb3 H2
  refine wl_v rfl rfl rfl (v_assign rfl) ?_
  refine wl_nil ?_
  refine wc_seq ?_
  refine wc_seq ?_
  refine wc_region ?_
  refine wl_v rfl rfl rfl (v_move rfl) ?_
  refine wl_v rfl rfl rfl (v_lss rfl rfl) ?_
  refine wl_v rfl rfl rfl (v_move rfl) ?_
  refine wl_guard rfl rfl rfl (fun g10 => ?_) (fun g10 => ?_)
  · have g10p := of_decide_eq_false g10
    refine wl_v rfl rfl rfl (v_move rfl) ?_
    refine wl_on' rfl rfl g10 ?_
    refine wl_v rfl rfl rfl (v_fb (o2 := 2) fa41_2 rfl rfl) ?_
    refine wl_on' rfl rfl g10 ?_
    refine wl_v rfl rfl rfl (v_load one38 rfl (H2.at (by repeat constructor) rfl)) ?_
    refine wl_on' rfl rfl g10 ?_
    refine wl_v rfl rfl rfl (v_len Try.underlying38 rfl) ?_
    refine wl_on' rfl rfl g10 ?_
    refine wl_v rfl rfl rfl (v_geq rfl rfl) ?_
    refine wl_v rfl rfl rfl (v_pick_f rfl g10 rfl) ?_
    refine wl_v rfl rfl rfl (v_move rfl) ?_
    refine wl_guard rfl rfl rfl (fun g17 => ?_) (fun g17 => ?_)
    · have g17p := of_decide_eq_false g17
      refine wl_v rfl rfl rfl (v_move rfl) ?_
      refine wl_on' rfl rfl g17 ?_
      refine wl_v rfl rfl rfl (v_lss rfl rfl) ?_
      refine wl_v rfl rfl rfl (v_pick_f rfl g17 rfl) ?_
      refine wl_v rfl rfl rfl (v_move rfl) ?_
      refine wl_guard rfl rfl rfl (fun g21 => ?_) (fun g21 => ?_)
      · have g21p := of_decide_eq_false g21
        refine wl_v rfl rfl rfl (v_move rfl) ?_
        refine wl_on' rfl rfl g21 ?_
        refine wl_v rfl rfl rfl (v_fb (o2 := 1) fa41_1 rfl rfl) ?_
        refine wl_on' rfl rfl g21 ?_
        refine wl_v rfl rfl rfl (v_load one3 rfl (H2.at (by repeat constructor) rfl)) ?_
        refine wl_on' rfl rfl g21 ?_
        refine wl_v rfl rfl rfl (v_geq rfl rfl) ?_
        refine wl_v rfl rfl rfl (v_pick_f rfl g21 rfl) ?_
        refine wl_nil ?_
        refine wc_cond rfl (fun c0 => ?_) (fun c0 => ?_)
        · have c0p := of_decide_eq_true c0
          refine wc_seq ?_
          refine wc_region ?_
          refine wl_v rfl rfl rfl (v_assign rfl) ?_
          refine wl_nil ?_
          refine wc_ret ?_
          first
            | exact ⟨_, res1 rfl rfl, by rw [lookGo, if_pos (by omega)], H2.pm (by repeat constructor)⟩
            | exact ⟨_, res1 rfl rfl, by rw [lookGo, if_neg (by omega), if_pos (by omega)], H2.pm (by repeat constructor)⟩
            | exact ⟨_, res1 rfl rfl, by rw [lookGo, if_neg (by omega), if_neg (by omega)], H2.pm (by repeat constructor)⟩
        · have c0p := of_decide_eq_false c0
          refine wc_skip ?_
          refine wc_seq ?_
          refine wc_region ?_
          refine wl_v rfl rfl rfl (v_fb (o2 := 6) fa41_6 rfl rfl) ?_
          refine wl_v rfl rfl rfl (v_load one39 rfl (H2.at (by repeat constructor) rfl)) ?_
          refine wl_v rfl rfl rfl (v_fb (o2 := 7) fa41_7 rfl rfl) ?_
          refine wl_v rfl rfl rfl (v_load one39 rfl (H2.at (by repeat constructor) rfl)) ?_
          refine wl_v rfl rfl rfl (v_move rfl) ?_
          refine wl_v rfl rfl rfl (v_move rfl) ?_
          refine wl_v rfl rfl rfl (v_fb (o2 := 8) fa41_8 rfl rfl) ?_
          refine wl_v rfl rfl rfl (v_load one39 rfl (H2.at (by repeat constructor) rfl)) ?_
          refine wl_v rfl rfl rfl (v_len Try.underlying39 rfl) ?_
          refine wl_call en51 rfl rfl (there_calls (hp.gb.below H2.old) (hp.gc.below H2.old) hk.gb hk.gc hk.igb (by omega) (by omega) (by omega)) ?_
          rintro _ w3 ⟨rfl, Hc⟩
          have H4 := H2.call Hc
          have hlt := cellF_lt (base := p.gbase) (check := p.gcheck) (cells := p.gcell.length) (s := s) (k := k)
          refine wl_v rfl rfl rfl (v_assign rfl) ?_
          refine wl_nil ?_
          refine wc_seq ?_
          refine wc_seq ?_
          refine wc_region ?_
          refine wl_v rfl rfl rfl (v_move rfl) ?_
          refine wl_v rfl rfl rfl (v_lss rfl rfl) ?_
          refine wl_nil ?_
          refine wc_cond rfl (fun c1 => ?_) (fun c1 => ?_)
          · have c1p := of_decide_eq_true c1
            refine wc_seq ?_
            refine wc_region ?_
            refine wl_v rfl rfl rfl (v_assign rfl) ?_
            refine wl_nil ?_
            refine wc_ret ?_
            first
              | exact ⟨_, res1 rfl rfl, by rw [lookGo, if_pos (by omega)], H4.pm (by repeat constructor)⟩
              | exact ⟨_, res1 rfl rfl, by rw [lookGo, if_neg (by omega), if_pos (by omega)], H4.pm (by repeat constructor)⟩
              | exact ⟨_, res1 rfl rfl, by rw [lookGo, if_neg (by omega), if_neg (by omega)], H4.pm (by repeat constructor)⟩
          · have c1p := of_decide_eq_false c1
            refine wc_skip ?_
            refine wc_seq ?_
            refine wc_region ?_
            refine wl_v rfl rfl rfl (v_fb (o2 := 8) fa41_8 rfl rfl) ?_
            refine wl_v rfl rfl rfl (v_load one39 rfl (H4.at (by repeat constructor) rfl)) ?_
            refine wl_v rfl rfl rfl (v_move rfl) ?_
            refine wl_v rfl rfl rfl (v_idx Try.underlying39 sz3 hp.ge.ad rfl rfl (by omega) (by omega)) ?_
            refine wl_v rfl rfl rfl (v_load one3 rfl (H4.cell (hp.ge.at1 (by omega) (by omega)))) ?_
            refine wl_v rfl rfl rfl (v_assign rfl) ?_
            refine wl_nil ?_
            refine wc_ret ?_
            first
              | exact ⟨_, res1 rfl rfl, by rw [lookGo, if_pos (by omega)], H4.pm (by repeat constructor)⟩
              | exact ⟨_, res1 rfl rfl, by rw [lookGo, if_neg (by omega), if_pos (by omega)], H4.pm (by repeat constructor)⟩
              | exact ⟨_, res1 rfl rfl, by rw [lookGo, if_neg (by omega), if_neg (by omega)], H4.pm (by repeat constructor)⟩
      · have g21p := of_decide_eq_true g21
        refine wl_off rfl rfl g21 rfl ?_
        refine wl_off rfl rfl g21 rfl ?_
        refine wl_off rfl rfl g21 rfl ?_
        refine wl_v rfl rfl rfl (v_pick_t rfl g21 rfl) ?_
        refine wl_nil ?_
        refine wc_cond_t rfl ?_
        refine wc_seq ?_
        refine wc_region ?_
        refine wl_v rfl rfl rfl (v_assign rfl) ?_
        refine wl_nil ?_
        refine wc_ret ?_
        first
          | exact ⟨_, res1 rfl rfl, by rw [lookGo, if_pos (by omega)], H2.pm (by repeat constructor)⟩
          | exact ⟨_, res1 rfl rfl, by rw [lookGo, if_neg (by omega), if_pos (by omega)], H2.pm (by repeat constructor)⟩
          | exact ⟨_, res1 rfl rfl, by rw [lookGo, if_neg (by omega), if_neg (by omega)], H2.pm (by repeat constructor)⟩
    · have g17p := of_decide_eq_true g17
      refine wl_off rfl rfl g17 rfl ?_
      refine wl_v rfl rfl rfl (v_pick_t rfl g17 rfl) ?_
      refine wl_v rfl rfl rfl (v_move rfl) ?_
      refine wl_off rfl rfl rfl rfl ?_
      refine wl_off rfl rfl rfl rfl ?_
      refine wl_off rfl rfl rfl rfl ?_
      refine wl_off rfl rfl rfl rfl ?_
      refine wl_v rfl rfl rfl (v_pick_t rfl rfl rfl) ?_
      refine wl_nil ?_
      refine wc_cond_t rfl ?_
      refine wc_seq ?_
      refine wc_region ?_
      refine wl_v rfl rfl rfl (v_assign rfl) ?_
      refine wl_nil ?_
      refine wc_ret ?_
      first
        | exact ⟨_, res1 rfl rfl, by rw [lookGo, if_pos (by omega)], H2.pm (by repeat constructor)⟩
        | exact ⟨_, res1 rfl rfl, by rw [lookGo, if_neg (by omega), if_pos (by omega)], H2.pm (by repeat constructor)⟩
        | exact ⟨_, res1 rfl rfl, by rw [lookGo, if_neg (by omega), if_neg (by omega)], H2.pm (by repeat constructor)⟩
  · have g10p := of_decide_eq_true g10
    refine wl_off rfl rfl g10 rfl ?_
    refine wl_off rfl rfl g10 rfl ?_
    refine wl_off rfl rfl g10 rfl ?_
    refine wl_off rfl rfl g10 rfl ?_
    refine wl_v rfl rfl rfl (v_pick_t rfl g10 rfl) ?_
    refine wl_v rfl rfl rfl (v_move rfl) ?_
    refine wl_off rfl rfl rfl rfl ?_
    refine wl_off rfl rfl rfl rfl ?_
    refine wl_v rfl rfl rfl (v_pick_t rfl rfl rfl) ?_
    refine wl_v rfl rfl rfl (v_move rfl) ?_
    refine wl_off rfl rfl rfl rfl ?_
    refine wl_off rfl rfl rfl rfl ?_
    refine wl_off rfl rfl rfl rfl ?_
    refine wl_off rfl rfl rfl rfl ?_
    refine wl_v rfl rfl rfl (v_pick_t rfl rfl rfl) ?_
    refine wl_nil ?_
    refine wc_cond_t rfl ?_
    refine wc_seq ?_
    refine wc_region ?_
    refine wl_v rfl rfl rfl (v_assign rfl) ?_
    refine wl_nil ?_
    refine wc_ret ?_
    first
      | exact ⟨_, res1 rfl rfl, by rw [lookGo, if_pos (by omega)], H2.pm (by repeat constructor)⟩
      | exact ⟨_, res1 rfl rfl, by rw [lookGo, if_neg (by omega), if_pos (by omega)], H2.pm (by repeat constructor)⟩
      | exact ⟨_, res1 rfl rfl, by rw [lookGo, if_neg (by omega), if_neg (by omega)], H2.pm (by repeat constructor)⟩

set_option maxRecDepth 100000 in
theorem goto_calls {a : PkA} {p : Pk} {s k : Int} {w : World} (hp : p.rd w a) (hk : p.ok) (is : I64 s) (ik : I64 k) :
    Calls Try.prog 25 #[p.val a, .int .i64 s, .int .i64 k] w fun e w' => ∃ v, e = .returned v ∧ v = .int .i64 (lookGo p s k) ∧ Holds w [] w' := by
  have q1 := hk.d
  have q2 := hk.b
  have q3 := hk.c
  have q4 := hk.e
  have q5 := hk.gb
  have q6 := hk.gc
  have q7 := hk.ge
  unfold I64 at is ik
  refine calls_of Try.func25 rfl Try.ntmps25 rfl ?_
  have H := Holds.start w
  refine wc_seq ?_
  refine wc_region ?_
  refine wl_box (cs := [_, _, _, _, _, _, _, _, _]) H rfl rfl rfl ?_
  intro b3 w1 hb3 H2
  refine wl_v rfl rfl rfl (v_assign rfl) ?_
  refine wl_nil ?_
  refine wc_seq ?_
  refine wc_seq ?_
  refine wc_region ?_
  refine wl_v rfl rfl rfl (v_move rfl) ?_
  refine wl_v rfl rfl rfl (v_lss rfl rfl) ?_
  refine wl_v rfl rfl rfl (v_move rfl) ?_
  refine wl_guard rfl rfl rfl (fun g10 => ?_) (fun g10 => ?_)
  · have g10p := of_decide_eq_false g10
    refine wl_v rfl rfl rfl (v_move rfl) ?_
    refine wl_on' rfl rfl g10 ?_
    refine wl_v rfl rfl rfl (v_fb (o2 := 2) fa41_2 rfl rfl) ?_
    refine wl_on' rfl rfl g10 ?_
    refine wl_v rfl rfl rfl (v_load one38 rfl (H2.at (by repeat constructor) rfl)) ?_
    refine wl_on' rfl rfl g10 ?_
    refine wl_v rfl rfl rfl (v_len Try.underlying38 rfl) ?_
    refine wl_on' rfl rfl g10 ?_
    refine wl_v rfl rfl rfl (v_geq rfl rfl) ?_
    refine wl_v rfl rfl rfl (v_pick_f rfl g10 rfl) ?_
    refine wl_v rfl rfl rfl (v_move rfl) ?_
    refine wl_guard rfl rfl rfl (fun g17 => ?_) (fun g17 => ?_)
    · have g17p := of_decide_eq_false g17
      refine wl_v rfl rfl rfl (v_move rfl) ?_
      refine wl_on' rfl rfl g17 ?_
      refine wl_v rfl rfl rfl (v_lss rfl rfl) ?_
      refine wl_v rfl rfl rfl (v_pick_f rfl g17 rfl) ?_
      refine wl_v rfl rfl rfl (v_move rfl) ?_
      refine wl_guard rfl rfl rfl (fun g21 => ?_) (fun g21 => ?_)
      · have g21p := of_decide_eq_false g21
        refine wl_v rfl rfl rfl (v_move rfl) ?_
        refine wl_on' rfl rfl g21 ?_
        refine wl_v rfl rfl rfl (v_fb (o2 := 1) fa41_1 rfl rfl) ?_
        refine wl_on' rfl rfl g21 ?_
        refine wl_v rfl rfl rfl (v_load one3 rfl (H2.at (by repeat constructor) rfl)) ?_
        refine wl_on' rfl rfl g21 ?_
        refine wl_v rfl rfl rfl (v_geq rfl rfl) ?_
        refine wl_v rfl rfl rfl (v_pick_f rfl g21 rfl) ?_
        refine wl_nil ?_
        refine wc_cond rfl (fun c0 => ?_) (fun c0 => ?_)
        · have c0p := of_decide_eq_true c0
          refine wc_seq ?_
          refine wc_region ?_
          refine wl_v rfl rfl rfl (v_assign rfl) ?_
          refine wl_nil ?_
          refine wc_ret ?_
          first
            | exact ⟨_, res1 rfl rfl, by rw [lookGo, if_pos (by omega)], H2.pm (by repeat constructor)⟩
            | exact ⟨_, res1 rfl rfl, by rw [lookGo, if_neg (by omega), if_pos (by omega)], H2.pm (by repeat constructor)⟩
            | exact ⟨_, res1 rfl rfl, by rw [lookGo, if_neg (by omega), if_neg (by omega)], H2.pm (by repeat constructor)⟩
        · have c0p := of_decide_eq_false c0
          refine wc_skip ?_
          refine wc_seq ?_
          refine wc_seq ?_
          refine wc_region ?_
          refine wl_v rfl rfl rfl (v_fb (o2 := 6) fa41_6 rfl rfl) ?_
          refine wl_v rfl rfl rfl (v_load one39 rfl (H2.at (by repeat constructor) rfl)) ?_
          refine wl_v rfl rfl rfl (v_fb (o2 := 7) fa41_7 rfl rfl) ?_
          refine wl_v rfl rfl rfl (v_load one39 rfl (H2.at (by repeat constructor) rfl)) ?_
          refine wl_v rfl rfl rfl (v_fb (o2 := 8) fa41_8 rfl rfl) ?_
          refine wl_v rfl rfl rfl (v_load one39 rfl (H2.at (by repeat constructor) rfl)) ?_
          refine wl_v rfl rfl rfl (v_len Try.underlying39 rfl) ?_
          refine wl_v rfl rfl rfl (v_move rfl) ?_
          refine wl_v rfl rfl rfl (v_move rfl) ?_
          refine wl_call en50 rfl rfl (cell_calls (hp.gb.below H2.old) (hp.gc.below H2.old) hk.gb hk.gc hk.igb (by omega) (by omega) (by omega)) ?_
          rintro _ w3 ⟨rfl, Hc⟩
          have H4 := H2.call Hc
          have hlt := cellF_lt (base := p.gbase) (check := p.gcheck) (cells := p.gcell.length) (s := s) (k := k)
          refine wl_v rfl rfl rfl (v_assign rfl) ?_
          refine wl_nil ?_
          refine wc_seq ?_
          refine wc_region ?_
          refine wl_v rfl rfl rfl (v_move rfl) ?_
          refine wl_v rfl rfl rfl (v_geq rfl rfl) ?_
          refine wl_nil ?_
          refine wc_cond rfl (fun c1 => ?_) (fun c1 => ?_)
          · have c1p := of_decide_eq_true c1
            refine wc_seq ?_
            refine wc_region ?_
            refine wl_v rfl rfl rfl (v_fb (o2 := 8) fa41_8 rfl rfl) ?_
            refine wl_v rfl rfl rfl (v_load one39 rfl (H4.at (by repeat constructor) rfl)) ?_
            refine wl_v rfl rfl rfl (v_move rfl) ?_
            refine wl_v rfl rfl rfl (v_idx Try.underlying39 sz3 hp.ge.ad rfl rfl (by omega) (by omega)) ?_
            refine wl_v rfl rfl rfl (v_load one3 rfl (H4.cell (hp.ge.at1 (by omega) (by omega)))) ?_
            refine wl_v rfl rfl rfl (v_assign rfl) ?_
            refine wl_nil ?_
            refine wc_ret ?_
            first
              | exact ⟨_, res1 rfl rfl, by rw [lookGo, if_pos (by omega)], H4.pm (by repeat constructor)⟩
              | exact ⟨_, res1 rfl rfl, by rw [lookGo, if_neg (by omega), if_pos (by omega)], H4.pm (by repeat constructor)⟩
              | exact ⟨_, res1 rfl rfl, by rw [lookGo, if_neg (by omega), if_neg (by omega)], H4.pm (by repeat constructor)⟩
          · have c1p := of_decide_eq_false c1
            refine wc_skip ?_
            refine wc_seq ?_
            refine wc_region ?_
            refine wl_v rfl rfl rfl (v_assign rfl) ?_
            refine wl_nil ?_
            refine wc_ret ?_
            first
              | exact ⟨_, res1 rfl rfl, by rw [lookGo, if_pos (by omega)], H4.pm (by repeat constructor)⟩
              | exact ⟨_, res1 rfl rfl, by rw [lookGo, if_neg (by omega), if_pos (by omega)], H4.pm (by repeat constructor)⟩
              | exact ⟨_, res1 rfl rfl, by rw [lookGo, if_neg (by omega), if_neg (by omega)], H4.pm (by repeat constructor)⟩
      · have g21p := of_decide_eq_true g21
        refine wl_off rfl rfl g21 rfl ?_
        refine wl_off rfl rfl g21 rfl ?_
        refine wl_off rfl rfl g21 rfl ?_
        refine wl_v rfl rfl rfl (v_pick_t rfl g21 rfl) ?_
        refine wl_nil ?_
        refine wc_cond_t rfl ?_
        refine wc_seq ?_
        refine wc_region ?_
        refine wl_v rfl rfl rfl (v_assign rfl) ?_
        refine wl_nil ?_
        refine wc_ret ?_
        first
          | exact ⟨_, res1 rfl rfl, by rw [lookGo, if_pos (by omega)], H2.pm (by repeat constructor)⟩
          | exact ⟨_, res1 rfl rfl, by rw [lookGo, if_neg (by omega), if_pos (by omega)], H2.pm (by repeat constructor)⟩
          | exact ⟨_, res1 rfl rfl, by rw [lookGo, if_neg (by omega), if_neg (by omega)], H2.pm (by repeat constructor)⟩
    · have g17p := of_decide_eq_true g17
      refine wl_off rfl rfl g17 rfl ?_
      refine wl_v rfl rfl rfl (v_pick_t rfl g17 rfl) ?_
      refine wl_v rfl rfl rfl (v_move rfl) ?_
      refine wl_off rfl rfl rfl rfl ?_
      refine wl_off rfl rfl rfl rfl ?_
      refine wl_off rfl rfl rfl rfl ?_
      refine wl_off rfl rfl rfl rfl ?_
      refine wl_v rfl rfl rfl (v_pick_t rfl rfl rfl) ?_
      refine wl_nil ?_
      refine wc_cond_t rfl ?_
      refine wc_seq ?_
      refine wc_region ?_
      refine wl_v rfl rfl rfl (v_assign rfl) ?_
      refine wl_nil ?_
      refine wc_ret ?_
      first
        | exact ⟨_, res1 rfl rfl, by rw [lookGo, if_pos (by omega)], H2.pm (by repeat constructor)⟩
        | exact ⟨_, res1 rfl rfl, by rw [lookGo, if_neg (by omega), if_pos (by omega)], H2.pm (by repeat constructor)⟩
        | exact ⟨_, res1 rfl rfl, by rw [lookGo, if_neg (by omega), if_neg (by omega)], H2.pm (by repeat constructor)⟩
  · have g10p := of_decide_eq_true g10
    refine wl_off rfl rfl g10 rfl ?_
    refine wl_off rfl rfl g10 rfl ?_
    refine wl_off rfl rfl g10 rfl ?_
    refine wl_off rfl rfl g10 rfl ?_
    refine wl_v rfl rfl rfl (v_pick_t rfl g10 rfl) ?_
    refine wl_v rfl rfl rfl (v_move rfl) ?_
    refine wl_off rfl rfl rfl rfl ?_
    refine wl_off rfl rfl rfl rfl ?_
    refine wl_v rfl rfl rfl (v_pick_t rfl rfl rfl) ?_
    refine wl_v rfl rfl rfl (v_move rfl) ?_
    refine wl_off rfl rfl rfl rfl ?_
    refine wl_off rfl rfl rfl rfl ?_
    refine wl_off rfl rfl rfl rfl ?_
    refine wl_off rfl rfl rfl rfl ?_
    refine wl_v rfl rfl rfl (v_pick_t rfl rfl rfl) ?_
    refine wl_nil ?_
    refine wc_cond_t rfl ?_
    refine wc_seq ?_
    refine wc_region ?_
    refine wl_v rfl rfl rfl (v_assign rfl) ?_
    refine wl_nil ?_
    refine wc_ret ?_
    first
      | exact ⟨_, res1 rfl rfl, by rw [lookGo, if_pos (by omega)], H2.pm (by repeat constructor)⟩
      | exact ⟨_, res1 rfl rfl, by rw [lookGo, if_neg (by omega), if_pos (by omega)], H2.pm (by repeat constructor)⟩
      | exact ⟨_, res1 rfl rfl, by rw [lookGo, if_neg (by omega), if_neg (by omega)], H2.pm (by repeat constructor)⟩
end Go.Proofs.Ytkpehkadammppaa.Look
