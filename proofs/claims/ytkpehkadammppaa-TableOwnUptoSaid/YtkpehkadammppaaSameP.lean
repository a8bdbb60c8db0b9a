/- Packed tables compared. -/
import Derived.Test.YtkpehkadammppaaProg
import Derived.Test.YtkpehkadammppaaRr
import Derived.Test.YtkpehkadammppaaPk
import Derived.Test.YtkpehkadammppaaTabA
set_option linter.unusedVariables false
set_option linter.unusedSimpArgs false
namespace Go.Proofs.Ytkpehkadammppaa.SameP
open Go Go.RowKit Go.Proofs.YtkpehkadammppaaFx Go.Proofs.Ytkpehkadammppaa.TabA
theorem en39 : Enters Try.prog 39 := enters Try.func39 (by kernel_rfl) rfl
theorem en40 : Enters Try.prog 40 := enters Try.func40 (by kernel_rfl) rfl
theorem fa41_0 : FieldAt Try.prog 41 0 0 := field_at (sz := 0) Try.underlying41 rfl (by kernel_rfl) rfl
theorem fa41_1 : FieldAt Try.prog 41 1 1 := field_at (sz := 0) Try.underlying41 rfl (by kernel_rfl) rfl
theorem fa41_2 : FieldAt Try.prog 41 2 2 := field_at (sz := 0) Try.underlying41 rfl (by kernel_rfl) rfl
theorem fa41_3 : FieldAt Try.prog 41 3 3 := field_at (sz := 0) Try.underlying41 rfl (by kernel_rfl) rfl
theorem fa41_4 : FieldAt Try.prog 41 4 4 := field_at (sz := 0) Try.underlying41 rfl (by kernel_rfl) rfl
theorem fa41_5 : FieldAt Try.prog 41 5 5 := field_at (sz := 0) Try.underlying41 rfl (by kernel_rfl) rfl
theorem fa41_6 : FieldAt Try.prog 41 6 6 := field_at (sz := 0) Try.underlying41 rfl (by kernel_rfl) rfl
theorem fa41_7 : FieldAt Try.prog 41 7 7 := field_at (sz := 0) Try.underlying41 rfl (by kernel_rfl) rfl
theorem fa41_8 : FieldAt Try.prog 41 8 8 := field_at (sz := 0) Try.underlying41 rfl (by kernel_rfl) rfl
theorem one3 : One Try.prog 3 := one_of Try.underlying3 rfl (by kernel_rfl)
theorem one38 : One Try.prog 38 := one_of Try.underlying38 rfl (by kernel_rfl)
theorem one39 : One Try.prog 39 := one_of Try.underlying39 rfl (by kernel_rfl)

/-- Its rows are of memory's length. -/
structure Lens (p : Pk) : Prop where
  d : p.dflt.length ≤ 1099511627776
  b : p.base.length ≤ 1099511627776
  c : p.check.length ≤ 1099511627776
  e : p.cell.length ≤ 1099511627776
  gb : p.gbase.length ≤ 1099511627776
  gc : p.gcheck.length ≤ 1099511627776
  ge : p.gcell.length ≤ 1099511627776
theorem pk_ext {p q : Pk} (h0 : p.kinds = q.kinds) (h1 : p.rules = q.rules) (h2 : p.dflt = q.dflt) (h3 : p.base = q.base) (h4 : p.check = q.check) (h5 : p.cell = q.cell) (h6 : p.gbase = q.gbase) (h7 : p.gcheck = q.gcheck) (h8 : p.gcell = q.gcell) : p = q := by
  cases p; cases q; simp_all

set_option maxRecDepth 100000 in
theorem samePacked_calls {p q : Pk} {a b : PkA} {w : World} (hp : p.rd w a) (hq : q.rd w b) (kp : Lens p) (kq : Lens q) :
    Calls Try.prog 18 #[p.val a, q.val b] w fun e w' => ∃ v, e = .returned v ∧ v = .bool (decide (p = q)) ∧ Holds w [] w' := by
  refine calls_of Try.func18 rfl Try.ntmps18 rfl ?_
  have H := Holds.start w
  refine wc_seq ?_
  refine wc_region ?_
  refine wl_box (cs := [_, _, _, _, _, _, _, _, _]) H rfl rfl rfl ?_
  intro b2 w1 hb2 H2
  refine wl_box (cs := [_, _, _, _, _, _, _, _, _]) H2 rfl rfl rfl ?_
  intro b3 w3 hb3 H4
  refine wl_v rfl rfl rfl (v_assign rfl) ?_
  refine wl_nil ?_
  refine wc_seq ?_
  refine wc_region ?_
  refine wl_v rfl rfl rfl (v_fb (o2 := 0) fa41_0 rfl rfl) ?_
  refine wl_v rfl rfl rfl (v_load one3 rfl (H4.at (by repeat constructor) rfl)) ?_
  refine wl_v rfl rfl rfl (v_fb (o2 := 0) fa41_0 rfl rfl) ?_
  refine wl_v rfl rfl rfl (v_load one3 rfl (H4.at (by repeat constructor) rfl)) ?_
  refine wl_v rfl rfl rfl (v_eql rfl rfl) ?_
  refine wl_v rfl rfl rfl (v_move rfl) ?_
  refine wl_guard rfl rfl rfl (fun g10 => ?_) (fun g10 => ?_)
  · have g10p := of_decide_eq_true g10
    refine wl_v rfl rfl rfl (v_fb (o2 := 1) fa41_1 rfl rfl) ?_
    refine wl_on' rfl rfl g10 ?_
    refine wl_v rfl rfl rfl (v_load one3 rfl (H4.at (by repeat constructor) rfl)) ?_
    refine wl_on' rfl rfl g10 ?_
    refine wl_v rfl rfl rfl (v_fb (o2 := 1) fa41_1 rfl rfl) ?_
    refine wl_on' rfl rfl g10 ?_
    refine wl_v rfl rfl rfl (v_load one3 rfl (H4.at (by repeat constructor) rfl)) ?_
    refine wl_on' rfl rfl g10 ?_
    refine wl_v rfl rfl rfl (v_eql rfl rfl) ?_
    refine wl_v rfl rfl rfl (v_pick_t rfl g10 rfl) ?_
    refine wl_v rfl rfl rfl (v_move rfl) ?_
    refine wl_guard rfl rfl rfl (fun g17 => ?_) (fun g17 => ?_)
    · have g17p := of_decide_eq_true g17
      refine wl_v rfl rfl rfl (v_fb (o2 := 2) fa41_2 rfl rfl) ?_
      refine wl_on' rfl rfl g17 ?_
      refine wl_v rfl rfl rfl (v_load one38 rfl (H4.at (by repeat constructor) rfl)) ?_
      refine wl_on' rfl rfl g17 ?_
      refine wl_v rfl rfl rfl (v_fb (o2 := 2) fa41_2 rfl rfl) ?_
      refine wl_on' rfl rfl g17 ?_
      refine wl_v rfl rfl rfl (v_load one38 rfl (H4.at (by repeat constructor) rfl)) ?_
      refine wl_on' rfl rfl g17 ?_
      refine wl_call en39 rfl rfl (sameMoves_calls (hp.d.below H4.old) (hq.d.below H4.old) kp.d kq.d) ?_
      rintro _ w5 ⟨rfl, Hc⟩
      have H6 := H4.call Hc
      refine wl_v rfl rfl rfl (v_pick_t rfl g17 rfl) ?_
      refine wl_v rfl rfl rfl (v_move rfl) ?_
      refine wl_guard rfl rfl rfl (fun g24 => ?_) (fun g24 => ?_)
      · have g24p := of_decide_eq_true g24
        refine wl_v rfl rfl rfl (v_fb (o2 := 3) fa41_3 rfl rfl) ?_
        refine wl_on' rfl rfl g24 ?_
        refine wl_v rfl rfl rfl (v_load one39 rfl (H6.at (by repeat constructor) rfl)) ?_
        refine wl_on' rfl rfl g24 ?_
        refine wl_v rfl rfl rfl (v_fb (o2 := 3) fa41_3 rfl rfl) ?_
        refine wl_on' rfl rfl g24 ?_
        refine wl_v rfl rfl rfl (v_load one39 rfl (H6.at (by repeat constructor) rfl)) ?_
        refine wl_on' rfl rfl g24 ?_
        refine wl_call en40 rfl rfl (sameInts_calls (hp.b.below H6.old) (hq.b.below H6.old) kp.b kq.b) ?_
        rintro _ w7 ⟨rfl, Hc⟩
        have H8 := H6.call Hc
        refine wl_v rfl rfl rfl (v_pick_t rfl g24 rfl) ?_
        refine wl_v rfl rfl rfl (v_move rfl) ?_
        refine wl_guard rfl rfl rfl (fun g31 => ?_) (fun g31 => ?_)
        · have g31p := of_decide_eq_true g31
          refine wl_v rfl rfl rfl (v_fb (o2 := 4) fa41_4 rfl rfl) ?_
          refine wl_on' rfl rfl g31 ?_
          refine wl_v rfl rfl rfl (v_load one39 rfl (H8.at (by repeat constructor) rfl)) ?_
          refine wl_on' rfl rfl g31 ?_
          refine wl_v rfl rfl rfl (v_fb (o2 := 4) fa41_4 rfl rfl) ?_
          refine wl_on' rfl rfl g31 ?_
          refine wl_v rfl rfl rfl (v_load one39 rfl (H8.at (by repeat constructor) rfl)) ?_
          refine wl_on' rfl rfl g31 ?_
          refine wl_call en40 rfl rfl (sameInts_calls (hp.c.below H8.old) (hq.c.below H8.old) kp.c kq.c) ?_
          rintro _ w9 ⟨rfl, Hc⟩
          have H10 := H8.call Hc
          refine wl_v rfl rfl rfl (v_pick_t rfl g31 rfl) ?_
          refine wl_v rfl rfl rfl (v_move rfl) ?_
          refine wl_guard rfl rfl rfl (fun g38 => ?_) (fun g38 => ?_)
          · have g38p := of_decide_eq_true g38
            refine wl_v rfl rfl rfl (v_fb (o2 := 5) fa41_5 rfl rfl) ?_
            refine wl_on' rfl rfl g38 ?_
            refine wl_v rfl rfl rfl (v_load one38 rfl (H10.at (by repeat constructor) rfl)) ?_
            refine wl_on' rfl rfl g38 ?_
            refine wl_v rfl rfl rfl (v_fb (o2 := 5) fa41_5 rfl rfl) ?_
            refine wl_on' rfl rfl g38 ?_
            refine wl_v rfl rfl rfl (v_load one38 rfl (H10.at (by repeat constructor) rfl)) ?_
            refine wl_on' rfl rfl g38 ?_
            refine wl_call en39 rfl rfl (sameMoves_calls (hp.e.below H10.old) (hq.e.below H10.old) kp.e kq.e) ?_
            rintro _ w11 ⟨rfl, Hc⟩
            have H12 := H10.call Hc
            refine wl_v rfl rfl rfl (v_pick_t rfl g38 rfl) ?_
            refine wl_v rfl rfl rfl (v_move rfl) ?_
            refine wl_guard rfl rfl rfl (fun g45 => ?_) (fun g45 => ?_)
            · have g45p := of_decide_eq_true g45
              refine wl_v rfl rfl rfl (v_fb (o2 := 6) fa41_6 rfl rfl) ?_
              refine wl_on' rfl rfl g45 ?_
              refine wl_v rfl rfl rfl (v_load one39 rfl (H12.at (by repeat constructor) rfl)) ?_
              refine wl_on' rfl rfl g45 ?_
              refine wl_v rfl rfl rfl (v_fb (o2 := 6) fa41_6 rfl rfl) ?_
              refine wl_on' rfl rfl g45 ?_
              refine wl_v rfl rfl rfl (v_load one39 rfl (H12.at (by repeat constructor) rfl)) ?_
              refine wl_on' rfl rfl g45 ?_
              refine wl_call en40 rfl rfl (sameInts_calls (hp.gb.below H12.old) (hq.gb.below H12.old) kp.gb kq.gb) ?_
              rintro _ w13 ⟨rfl, Hc⟩
              have H14 := H12.call Hc
              refine wl_v rfl rfl rfl (v_pick_t rfl g45 rfl) ?_
              refine wl_v rfl rfl rfl (v_move rfl) ?_
              refine wl_guard rfl rfl rfl (fun g52 => ?_) (fun g52 => ?_)
              · have g52p := of_decide_eq_true g52
                refine wl_v rfl rfl rfl (v_fb (o2 := 7) fa41_7 rfl rfl) ?_
                refine wl_on' rfl rfl g52 ?_
                refine wl_v rfl rfl rfl (v_load one39 rfl (H14.at (by repeat constructor) rfl)) ?_
                refine wl_on' rfl rfl g52 ?_
                refine wl_v rfl rfl rfl (v_fb (o2 := 7) fa41_7 rfl rfl) ?_
                refine wl_on' rfl rfl g52 ?_
                refine wl_v rfl rfl rfl (v_load one39 rfl (H14.at (by repeat constructor) rfl)) ?_
                refine wl_on' rfl rfl g52 ?_
                refine wl_call en40 rfl rfl (sameInts_calls (hp.gc.below H14.old) (hq.gc.below H14.old) kp.gc kq.gc) ?_
                rintro _ w15 ⟨rfl, Hc⟩
                have H16 := H14.call Hc
                refine wl_v rfl rfl rfl (v_pick_t rfl g52 rfl) ?_
                refine wl_v rfl rfl rfl (v_move rfl) ?_
                refine wl_guard rfl rfl rfl (fun g59 => ?_) (fun g59 => ?_)
                · have g59p := of_decide_eq_true g59
                  refine wl_v rfl rfl rfl (v_fb (o2 := 8) fa41_8 rfl rfl) ?_
                  refine wl_on' rfl rfl g59 ?_
                  refine wl_v rfl rfl rfl (v_load one39 rfl (H16.at (by repeat constructor) rfl)) ?_
                  refine wl_on' rfl rfl g59 ?_
                  refine wl_v rfl rfl rfl (v_fb (o2 := 8) fa41_8 rfl rfl) ?_
                  refine wl_on' rfl rfl g59 ?_
                  refine wl_v rfl rfl rfl (v_load one39 rfl (H16.at (by repeat constructor) rfl)) ?_
                  refine wl_on' rfl rfl g59 ?_
                  refine wl_call en40 rfl rfl (sameInts_calls (hp.ge.below H16.old) (hq.ge.below H16.old) kp.ge kq.ge) ?_
                  rintro _ w17 ⟨rfl, Hc⟩
                  have H18 := H16.call Hc
                  refine wl_v rfl rfl rfl (v_pick_t rfl g59 rfl) ?_
                  refine wl_v rfl rfl rfl (v_assign rfl) ?_
                  refine wl_nil ?_
                  refine wc_ret ?_
                  first
                    | exact ⟨_, res1 rfl rfl, congrArg Value.bool (decide_eq_decide.2 ⟨fun h => pk_ext g10p g17p g24p g31p g38p g45p g52p g59p h, fun h => by rw [h]⟩), H18.pm (Pm.nil _)⟩
                    | exact ⟨_, res1 rfl rfl, congrArg Value.bool (decide_eq_false (fun h => by first | exact g59p (by rw [h]) | exact g52p (by rw [h]) | exact g45p (by rw [h]) | exact g38p (by rw [h]) | exact g31p (by rw [h]) | exact g24p (by rw [h]) | exact g17p (by rw [h]) | exact g10p (by rw [h]))).symm, H18.pm (Pm.nil _)⟩
                · have g59p := of_decide_eq_false g59
                  refine wl_off rfl rfl g59 rfl ?_
                  refine wl_off rfl rfl g59 rfl ?_
                  refine wl_off rfl rfl g59 rfl ?_
                  refine wl_off rfl rfl g59 rfl ?_
                  refine wl_v rfl rfl rfl (v_pick_f rfl g59 rfl) ?_
                  refine wl_v rfl rfl rfl (v_assign rfl) ?_
                  refine wl_nil ?_
                  refine wc_ret ?_
                  first
                    | exact ⟨_, res1 rfl rfl, congrArg Value.bool (decide_eq_decide.2 ⟨fun h => pk_ext g10p g17p g24p g31p g38p g45p g52p g59p h, fun h => by rw [h]⟩), H16.pm (Pm.nil _)⟩
                    | exact ⟨_, res1 rfl rfl, congrArg Value.bool (decide_eq_false (fun h => by first | exact g59p (by rw [h]) | exact g52p (by rw [h]) | exact g45p (by rw [h]) | exact g38p (by rw [h]) | exact g31p (by rw [h]) | exact g24p (by rw [h]) | exact g17p (by rw [h]) | exact g10p (by rw [h]))).symm, H16.pm (Pm.nil _)⟩
              · have g52p := of_decide_eq_false g52
                refine wl_off rfl rfl g52 rfl ?_
                refine wl_off rfl rfl g52 rfl ?_
                refine wl_off rfl rfl g52 rfl ?_
                refine wl_off rfl rfl g52 rfl ?_
                refine wl_v rfl rfl rfl (v_pick_f rfl g52 rfl) ?_
                refine wl_v rfl rfl rfl (v_move rfl) ?_
                refine wl_off rfl rfl rfl rfl ?_
                refine wl_off rfl rfl rfl rfl ?_
                refine wl_off rfl rfl rfl rfl ?_
                refine wl_off rfl rfl rfl rfl ?_
                refine wl_off rfl rfl rfl rfl ?_
                refine wl_v rfl rfl rfl (v_pick_f rfl rfl rfl) ?_
                refine wl_v rfl rfl rfl (v_assign rfl) ?_
                refine wl_nil ?_
                refine wc_ret ?_
                first
                  | exact ⟨_, res1 rfl rfl, congrArg Value.bool (decide_eq_decide.2 ⟨fun h => pk_ext g10p g17p g24p g31p g38p g45p g52p g59p h, fun h => by rw [h]⟩), H14.pm (Pm.nil _)⟩
                  | exact ⟨_, res1 rfl rfl, congrArg Value.bool (decide_eq_false (fun h => by first | exact g59p (by rw [h]) | exact g52p (by rw [h]) | exact g45p (by rw [h]) | exact g38p (by rw [h]) | exact g31p (by rw [h]) | exact g24p (by rw [h]) | exact g17p (by rw [h]) | exact g10p (by rw [h]))).symm, H14.pm (Pm.nil _)⟩
            · have g45p := of_decide_eq_false g45
              refine wl_off rfl rfl g45 rfl ?_
              refine wl_off rfl rfl g45 rfl ?_
              refine wl_off rfl rfl g45 rfl ?_
              refine wl_off rfl rfl g45 rfl ?_
              refine wl_v rfl rfl rfl (v_pick_f rfl g45 rfl) ?_
              refine wl_v rfl rfl rfl (v_move rfl) ?_
              refine wl_off rfl rfl rfl rfl ?_
              refine wl_off rfl rfl rfl rfl ?_
              refine wl_off rfl rfl rfl rfl ?_
              refine wl_off rfl rfl rfl rfl ?_
              refine wl_off rfl rfl rfl rfl ?_
              refine wl_v rfl rfl rfl (v_pick_f rfl rfl rfl) ?_
              refine wl_v rfl rfl rfl (v_move rfl) ?_
              refine wl_off rfl rfl rfl rfl ?_
              refine wl_off rfl rfl rfl rfl ?_
              refine wl_off rfl rfl rfl rfl ?_
              refine wl_off rfl rfl rfl rfl ?_
              refine wl_off rfl rfl rfl rfl ?_
              refine wl_v rfl rfl rfl (v_pick_f rfl rfl rfl) ?_
              refine wl_v rfl rfl rfl (v_assign rfl) ?_
              refine wl_nil ?_
              refine wc_ret ?_
              first
                | exact ⟨_, res1 rfl rfl, congrArg Value.bool (decide_eq_decide.2 ⟨fun h => pk_ext g10p g17p g24p g31p g38p g45p g52p g59p h, fun h => by rw [h]⟩), H12.pm (Pm.nil _)⟩
                | exact ⟨_, res1 rfl rfl, congrArg Value.bool (decide_eq_false (fun h => by first | exact g59p (by rw [h]) | exact g52p (by rw [h]) | exact g45p (by rw [h]) | exact g38p (by rw [h]) | exact g31p (by rw [h]) | exact g24p (by rw [h]) | exact g17p (by rw [h]) | exact g10p (by rw [h]))).symm, H12.pm (Pm.nil _)⟩
          · have g38p := of_decide_eq_false g38
            refine wl_off rfl rfl g38 rfl ?_
            refine wl_off rfl rfl g38 rfl ?_
            refine wl_off rfl rfl g38 rfl ?_
            refine wl_off rfl rfl g38 rfl ?_
            refine wl_v rfl rfl rfl (v_pick_f rfl g38 rfl) ?_
            refine wl_v rfl rfl rfl (v_move rfl) ?_
            refine wl_off rfl rfl rfl rfl ?_
            refine wl_off rfl rfl rfl rfl ?_
            refine wl_off rfl rfl rfl rfl ?_
            refine wl_off rfl rfl rfl rfl ?_
            refine wl_off rfl rfl rfl rfl ?_
            refine wl_v rfl rfl rfl (v_pick_f rfl rfl rfl) ?_
            refine wl_v rfl rfl rfl (v_move rfl) ?_
            refine wl_off rfl rfl rfl rfl ?_
            refine wl_off rfl rfl rfl rfl ?_
            refine wl_off rfl rfl rfl rfl ?_
            refine wl_off rfl rfl rfl rfl ?_
            refine wl_off rfl rfl rfl rfl ?_
            refine wl_v rfl rfl rfl (v_pick_f rfl rfl rfl) ?_
            refine wl_v rfl rfl rfl (v_move rfl) ?_
            refine wl_off rfl rfl rfl rfl ?_
            refine wl_off rfl rfl rfl rfl ?_
            refine wl_off rfl rfl rfl rfl ?_
            refine wl_off rfl rfl rfl rfl ?_
            refine wl_off rfl rfl rfl rfl ?_
            refine wl_v rfl rfl rfl (v_pick_f rfl rfl rfl) ?_
            refine wl_v rfl rfl rfl (v_assign rfl) ?_
            refine wl_nil ?_
            refine wc_ret ?_
            first
              | exact ⟨_, res1 rfl rfl, congrArg Value.bool (decide_eq_decide.2 ⟨fun h => pk_ext g10p g17p g24p g31p g38p g45p g52p g59p h, fun h => by rw [h]⟩), H10.pm (Pm.nil _)⟩
              | exact ⟨_, res1 rfl rfl, congrArg Value.bool (decide_eq_false (fun h => by first | exact g59p (by rw [h]) | exact g52p (by rw [h]) | exact g45p (by rw [h]) | exact g38p (by rw [h]) | exact g31p (by rw [h]) | exact g24p (by rw [h]) | exact g17p (by rw [h]) | exact g10p (by rw [h]))).symm, H10.pm (Pm.nil _)⟩
        · have g31p := of_decide_eq_false g31
          refine wl_off rfl rfl g31 rfl ?_
          refine wl_off rfl rfl g31 rfl ?_
          refine wl_off rfl rfl g31 rfl ?_
          refine wl_off rfl rfl g31 rfl ?_
          refine wl_v rfl rfl rfl (v_pick_f rfl g31 rfl) ?_
          refine wl_v rfl rfl rfl (v_move rfl) ?_
          refine wl_off rfl rfl rfl rfl ?_
          refine wl_off rfl rfl rfl rfl ?_
          refine wl_off rfl rfl rfl rfl ?_
          refine wl_off rfl rfl rfl rfl ?_
          refine wl_off rfl rfl rfl rfl ?_
          refine wl_v rfl rfl rfl (v_pick_f rfl rfl rfl) ?_
          refine wl_v rfl rfl rfl (v_move rfl) ?_
          refine wl_off rfl rfl rfl rfl ?_
          refine wl_off rfl rfl rfl rfl ?_
          refine wl_off rfl rfl rfl rfl ?_
          refine wl_off rfl rfl rfl rfl ?_
          refine wl_off rfl rfl rfl rfl ?_
          refine wl_v rfl rfl rfl (v_pick_f rfl rfl rfl) ?_
          refine wl_v rfl rfl rfl (v_move rfl) ?_
          refine wl_off rfl rfl rfl rfl ?_
          refine wl_off rfl rfl rfl rfl ?_
          refine wl_off rfl rfl rfl rfl ?_
          refine wl_off rfl rfl rfl rfl ?_
          refine wl_off rfl rfl rfl rfl ?_
          refine wl_v rfl rfl rfl (v_pick_f rfl rfl rfl) ?_
          refine wl_v rfl rfl rfl (v_move rfl) ?_
          refine wl_off rfl rfl rfl rfl ?_
          refine wl_off rfl rfl rfl rfl ?_
          refine wl_off rfl rfl rfl rfl ?_
          refine wl_off rfl rfl rfl rfl ?_
          refine wl_off rfl rfl rfl rfl ?_
          refine wl_v rfl rfl rfl (v_pick_f rfl rfl rfl) ?_
          refine wl_v rfl rfl rfl (v_assign rfl) ?_
          refine wl_nil ?_
          refine wc_ret ?_
          first
            | exact ⟨_, res1 rfl rfl, congrArg Value.bool (decide_eq_decide.2 ⟨fun h => pk_ext g10p g17p g24p g31p g38p g45p g52p g59p h, fun h => by rw [h]⟩), H8.pm (Pm.nil _)⟩
            | exact ⟨_, res1 rfl rfl, congrArg Value.bool (decide_eq_false (fun h => by first | exact g59p (by rw [h]) | exact g52p (by rw [h]) | exact g45p (by rw [h]) | exact g38p (by rw [h]) | exact g31p (by rw [h]) | exact g24p (by rw [h]) | exact g17p (by rw [h]) | exact g10p (by rw [h]))).symm, H8.pm (Pm.nil _)⟩
      · have g24p := of_decide_eq_false g24
        refine wl_off rfl rfl g24 rfl ?_
        refine wl_off rfl rfl g24 rfl ?_
        refine wl_off rfl rfl g24 rfl ?_
        refine wl_off rfl rfl g24 rfl ?_
        refine wl_v rfl rfl rfl (v_pick_f rfl g24 rfl) ?_
        refine wl_v rfl rfl rfl (v_move rfl) ?_
        refine wl_off rfl rfl rfl rfl ?_
        refine wl_off rfl rfl rfl rfl ?_
        refine wl_off rfl rfl rfl rfl ?_
        refine wl_off rfl rfl rfl rfl ?_
        refine wl_off rfl rfl rfl rfl ?_
        refine wl_v rfl rfl rfl (v_pick_f rfl rfl rfl) ?_
        refine wl_v rfl rfl rfl (v_move rfl) ?_
        refine wl_off rfl rfl rfl rfl ?_
        refine wl_off rfl rfl rfl rfl ?_
        refine wl_off rfl rfl rfl rfl ?_
        refine wl_off rfl rfl rfl rfl ?_
        refine wl_off rfl rfl rfl rfl ?_
        refine wl_v rfl rfl rfl (v_pick_f rfl rfl rfl) ?_
        refine wl_v rfl rfl rfl (v_move rfl) ?_
        refine wl_off rfl rfl rfl rfl ?_
        refine wl_off rfl rfl rfl rfl ?_
        refine wl_off rfl rfl rfl rfl ?_
        refine wl_off rfl rfl rfl rfl ?_
        refine wl_off rfl rfl rfl rfl ?_
        refine wl_v rfl rfl rfl (v_pick_f rfl rfl rfl) ?_
        refine wl_v rfl rfl rfl (v_move rfl) ?_
        refine wl_off rfl rfl rfl rfl ?_
        refine wl_off rfl rfl rfl rfl ?_
        refine wl_off rfl rfl rfl rfl ?_
        refine wl_off rfl rfl rfl rfl ?_
        refine wl_off rfl rfl rfl rfl ?_
        refine wl_v rfl rfl rfl (v_pick_f rfl rfl rfl) ?_
        refine wl_v rfl rfl rfl (v_move rfl) ?_
        refine wl_off rfl rfl rfl rfl ?_
        refine wl_off rfl rfl rfl rfl ?_
        refine wl_off rfl rfl rfl rfl ?_
        refine wl_off rfl rfl rfl rfl ?_
        refine wl_off rfl rfl rfl rfl ?_
        refine wl_v rfl rfl rfl (v_pick_f rfl rfl rfl) ?_
        refine wl_v rfl rfl rfl (v_assign rfl) ?_
        refine wl_nil ?_
        refine wc_ret ?_
        first
          | exact ⟨_, res1 rfl rfl, congrArg Value.bool (decide_eq_decide.2 ⟨fun h => pk_ext g10p g17p g24p g31p g38p g45p g52p g59p h, fun h => by rw [h]⟩), H6.pm (Pm.nil _)⟩
          | exact ⟨_, res1 rfl rfl, congrArg Value.bool (decide_eq_false (fun h => by first | exact g59p (by rw [h]) | exact g52p (by rw [h]) | exact g45p (by rw [h]) | exact g38p (by rw [h]) | exact g31p (by rw [h]) | exact g24p (by rw [h]) | exact g17p (by rw [h]) | exact g10p (by rw [h]))).symm, H6.pm (Pm.nil _)⟩
    · have g17p := of_decide_eq_false g17
      refine wl_off rfl rfl g17 rfl ?_
      refine wl_off rfl rfl g17 rfl ?_
      refine wl_off rfl rfl g17 rfl ?_
      refine wl_off rfl rfl g17 rfl ?_
      refine wl_v rfl rfl rfl (v_pick_f rfl g17 rfl) ?_
      refine wl_v rfl rfl rfl (v_move rfl) ?_
      refine wl_off rfl rfl rfl rfl ?_
      refine wl_off rfl rfl rfl rfl ?_
      refine wl_off rfl rfl rfl rfl ?_
      refine wl_off rfl rfl rfl rfl ?_
      refine wl_off rfl rfl rfl rfl ?_
      refine wl_v rfl rfl rfl (v_pick_f rfl rfl rfl) ?_
      refine wl_v rfl rfl rfl (v_move rfl) ?_
      refine wl_off rfl rfl rfl rfl ?_
      refine wl_off rfl rfl rfl rfl ?_
      refine wl_off rfl rfl rfl rfl ?_
      refine wl_off rfl rfl rfl rfl ?_
      refine wl_off rfl rfl rfl rfl ?_
      refine wl_v rfl rfl rfl (v_pick_f rfl rfl rfl) ?_
      refine wl_v rfl rfl rfl (v_move rfl) ?_
      refine wl_off rfl rfl rfl rfl ?_
      refine wl_off rfl rfl rfl rfl ?_
      refine wl_off rfl rfl rfl rfl ?_
      refine wl_off rfl rfl rfl rfl ?_
      refine wl_off rfl rfl rfl rfl ?_
      refine wl_v rfl rfl rfl (v_pick_f rfl rfl rfl) ?_
      refine wl_v rfl rfl rfl (v_move rfl) ?_
      refine wl_off rfl rfl rfl rfl ?_
      refine wl_off rfl rfl rfl rfl ?_
      refine wl_off rfl rfl rfl rfl ?_
      refine wl_off rfl rfl rfl rfl ?_
      refine wl_off rfl rfl rfl rfl ?_
      refine wl_v rfl rfl rfl (v_pick_f rfl rfl rfl) ?_
      refine wl_v rfl rfl rfl (v_move rfl) ?_
      refine wl_off rfl rfl rfl rfl ?_
      refine wl_off rfl rfl rfl rfl ?_
      refine wl_off rfl rfl rfl rfl ?_
      refine wl_off rfl rfl rfl rfl ?_
      refine wl_off rfl rfl rfl rfl ?_
      refine wl_v rfl rfl rfl (v_pick_f rfl rfl rfl) ?_
      refine wl_v rfl rfl rfl (v_move rfl) ?_
      refine wl_off rfl rfl rfl rfl ?_
      refine wl_off rfl rfl rfl rfl ?_
      refine wl_off rfl rfl rfl rfl ?_
      refine wl_off rfl rfl rfl rfl ?_
      refine wl_off rfl rfl rfl rfl ?_
      refine wl_v rfl rfl rfl (v_pick_f rfl rfl rfl) ?_
      refine wl_v rfl rfl rfl (v_assign rfl) ?_
      refine wl_nil ?_
      refine wc_ret ?_
      first
        | exact ⟨_, res1 rfl rfl, congrArg Value.bool (decide_eq_decide.2 ⟨fun h => pk_ext g10p g17p g24p g31p g38p g45p g52p g59p h, fun h => by rw [h]⟩), H4.pm (Pm.nil _)⟩
        | exact ⟨_, res1 rfl rfl, congrArg Value.bool (decide_eq_false (fun h => by first | exact g59p (by rw [h]) | exact g52p (by rw [h]) | exact g45p (by rw [h]) | exact g38p (by rw [h]) | exact g31p (by rw [h]) | exact g24p (by rw [h]) | exact g17p (by rw [h]) | exact g10p (by rw [h]))).symm, H4.pm (Pm.nil _)⟩
  · have g10p := of_decide_eq_false g10
    refine wl_off rfl rfl g10 rfl ?_
    refine wl_off rfl rfl g10 rfl ?_
    refine wl_off rfl rfl g10 rfl ?_
    refine wl_off rfl rfl g10 rfl ?_
    refine wl_v rfl rfl rfl (v_pick_f rfl g10 rfl) ?_
    refine wl_v rfl rfl rfl (v_move rfl) ?_
    refine wl_off rfl rfl rfl rfl ?_
    refine wl_off rfl rfl rfl rfl ?_
    refine wl_off rfl rfl rfl rfl ?_
    refine wl_off rfl rfl rfl rfl ?_
    refine wl_off rfl rfl rfl rfl ?_
    refine wl_v rfl rfl rfl (v_pick_f rfl rfl rfl) ?_
    refine wl_v rfl rfl rfl (v_move rfl) ?_
    refine wl_off rfl rfl rfl rfl ?_
    refine wl_off rfl rfl rfl rfl ?_
    refine wl_off rfl rfl rfl rfl ?_
    refine wl_off rfl rfl rfl rfl ?_
    refine wl_off rfl rfl rfl rfl ?_
    refine wl_v rfl rfl rfl (v_pick_f rfl rfl rfl) ?_
    refine wl_v rfl rfl rfl (v_move rfl) ?_
    refine wl_off rfl rfl rfl rfl ?_
    refine wl_off rfl rfl rfl rfl ?_
    refine wl_off rfl rfl rfl rfl ?_
    refine wl_off rfl rfl rfl rfl ?_
    refine wl_off rfl rfl rfl rfl ?_
    refine wl_v rfl rfl rfl (v_pick_f rfl rfl rfl) ?_
    refine wl_v rfl rfl rfl (v_move rfl) ?_
    refine wl_off rfl rfl rfl rfl ?_
    refine wl_off rfl rfl rfl rfl ?_
    refine wl_off rfl rfl rfl rfl ?_
    refine wl_off rfl rfl rfl rfl ?_
    refine wl_off rfl rfl rfl rfl ?_
    refine wl_v rfl rfl rfl (v_pick_f rfl rfl rfl) ?_
    refine wl_v rfl rfl rfl (v_move rfl) ?_
    refine wl_off rfl rfl rfl rfl ?_
    refine wl_off rfl rfl rfl rfl ?_
    refine wl_off rfl rfl rfl rfl ?_
    refine wl_off rfl rfl rfl rfl ?_
    refine wl_off rfl rfl rfl rfl ?_
    refine wl_v rfl rfl rfl (v_pick_f rfl rfl rfl) ?_
    refine wl_v rfl rfl rfl (v_move rfl) ?_
    refine wl_off rfl rfl rfl rfl ?_
    refine wl_off rfl rfl rfl rfl ?_
    refine wl_off rfl rfl rfl rfl ?_
    refine wl_off rfl rfl rfl rfl ?_
    refine wl_off rfl rfl rfl rfl ?_
    refine wl_v rfl rfl rfl (v_pick_f rfl rfl rfl) ?_
    refine wl_v rfl rfl rfl (v_move rfl) ?_
    refine wl_off rfl rfl rfl rfl ?_
    refine wl_off rfl rfl rfl rfl ?_
    refine wl_off rfl rfl rfl rfl ?_
    refine wl_off rfl rfl rfl rfl ?_
    refine wl_off rfl rfl rfl rfl ?_
    refine wl_v rfl rfl rfl (v_pick_f rfl rfl rfl) ?_
    refine wl_v rfl rfl rfl (v_assign rfl) ?_
    refine wl_nil ?_
    refine wc_ret ?_
    first
      | exact ⟨_, res1 rfl rfl, congrArg Value.bool (decide_eq_decide.2 ⟨fun h => pk_ext g10p g17p g24p g31p g38p g45p g52p g59p h, fun h => by rw [h]⟩), H4.pm (Pm.nil _)⟩
      | exact ⟨_, res1 rfl rfl, congrArg Value.bool (decide_eq_false (fun h => by first | exact g59p (by rw [h]) | exact g52p (by rw [h]) | exact g45p (by rw [h]) | exact g38p (by rw [h]) | exact g31p (by rw [h]) | exact g24p (by rw [h]) | exact g17p (by rw [h]) | exact g10p (by rw [h]))).symm, H4.pm (Pm.nil _)⟩
end Go.Proofs.Ytkpehkadammppaa.SameP
