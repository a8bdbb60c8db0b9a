/- Insertion sort of the order. -/
import Derived.Test.YtkpehkadammppaaProg
import Derived.Test.YtkpehkadammppaaSwapW
import Derived.Test.YtkpehkadammppaaLess
import Derived.Test.YtkpehkadammppaaSrt
set_option linter.unusedVariables false
set_option linter.unusedSimpArgs false
namespace Go.Proofs.Ytkpehkadammppaa.Insr
open Go Go.RowKit Go.Proofs.YtkpehkadammppaaFx Go.Proofs.Ytkpehkadammppaa.SwapW Go.Proofs.Ytkpehkadammppaa.Less
theorem en57 : Enters Try.prog 57 := enters Try.func57 (by kernel_rfl) rfl
theorem fa152_0 : FieldAt Try.prog 152 0 0 := field_at (sz := 0) Try.underlying152 rfl (by kernel_rfl) rfl
theorem fa152_1 : FieldAt Try.prog 152 1 1 := field_at (sz := 0) Try.underlying152 rfl (by kernel_rfl) rfl
theorem one118 : One Try.prog 118 := one_of Try.underlying118 rfl (by kernel_rfl)
theorem one135 : One Try.prog 135 := one_of Try.underlying135 rfl (by kernel_rfl)

set_option maxRecDepth 100000 in
theorem insertion_calls {R : Option Addr} {cr b2 b6 g n : Nat} {w0 w : World} {xs : List Int} {rows : List (List Int)} {LL : List Int → List Ch} (hR : Rd (kInt .i64).sl w0 R rows) (UU : ∀ x y, Upd (LL x) (Row (fInt .i64) 3 (.slice (some ⟨g, 0, none⟩) n n) x) (Row (fInt .i64) 3 (.slice (some ⟨g, 0, none⟩) n n) y) (LL y)) (U6 : ∀ x, Upd (LL x) (Blk b6 39 [.slice (some ⟨g, 0, none⟩) n n]) (Blk b6 39 [.slice (some ⟨g, 0, none⟩) n n]) (LL x)) (U2 : ∀ x, Upd (LL x) (Blk b2 23 [.slice R rows.length cr]) (Blk b2 23 [.slice R rows.length cr]) (LL x))
    (HH : Holds w0 (LL xs) w) (hn : n = xs.length) (hx : xs.length ≤ 1099511627776) (hrg : ∀ x ∈ xs, 0 ≤ x ∧ x < rows.length) {a b : Nat} (hab : a ≤ b) (hl : b ≤ xs.length) (hasc : Asc xs a b) :
    Calls Try.prog 88 #[.agg #[.func (.func 57) #[] #[.pointer (some ⟨b2, 0, none⟩), .pointer (some ⟨b6, 0, none⟩)], .func (.func 83) #[] #[.slice (some ⟨g, 0, none⟩) n n, typeHandle Try.prog 3]], .int .i64 a, .int .i64 b] w fun e w' => ∃ v, e = .returned v ∧ ∃ ys, v = .tuple #[] ∧ Srtd (lnR rows) xs ys a b ∧ Holds w0 (LL ys) w' := by
  refine calls_of Try.func88 rfl Try.ntmps88 rfl ?_
  have H := HH
  refine wc_seq ?_
  refine wc_region ?_
  refine wl_box (cs := [_, _]) H rfl rfl rfl ?_
  intro b3 w1 hb3 H2
  refine wl_nil ?_
  refine wc_seq ?_
  refine wc_region ?_
  refine wl_v rfl rfl rfl (v_move rfl) ?_
  refine wl_v rfl rfl rfl (v_addi rfl rfl (by omega)) ?_
  refine wl_v rfl rfl rfl (v_assign rfl) ?_
  refine wl_nil ?_
  refine wc_block ?_
  refine wc_loop (σ := Nat × List Int) (fun s => [(1, .int .i64 a), (2, .int .i64 b), (3, .pointer (some ⟨b3, 0, none⟩)), (6, .int .i64 s.1)]) (fun s W => (a + 1 ≤ s.1 ∧ (s.1 ≤ b ∨ s.1 = a + 1) ∧ Srtd (lnR rows) xs s.2 a s.1 ∧ (s.1 = a + 1 → s.2 = xs)) ∧ Holds w0 (Blk b3 152 [.func (.func 57) #[] #[.pointer (some ⟨b2, 0, none⟩), .pointer (some ⟨b6, 0, none⟩)], .func (.func 83) #[] #[.slice (some ⟨g, 0, none⟩) n n, typeHandle Try.prog 3]] :: LL s.2) W) (fun s => b + 1 - s.1) (a + 1, xs) (sc rfl (sc rfl (sc rfl (sc rfl (sn _))))) ⟨⟨Nat.le_refl _, .inr rfl, Srtd.one _ _ (Nat.le_refl _), fun _ => rfl⟩, H2⟩ ?_
  rintro ⟨i, ys⟩ W0 ⟨⟨h1, h2, h3, h9⟩, H⟩
  dsimp only at h1 h2 h3 h9 H ⊢
  refine wc_seq ?_
  refine wc_seq ?_
  refine wc_region ?_
  refine wl_v rfl rfl rfl (v_move rfl) ?_
  refine wl_v rfl rfl rfl (v_move rfl) ?_
  refine wl_v rfl rfl rfl (v_lss rfl rfl) ?_
  refine wl_nil ?_
  refine wc_cond rfl (fun c0 => ?_) (fun c0 => ?_)
  · have c0p := of_decide_eq_true c0
    refine wc_skip ?_
    refine wc_seq ?_
    refine wc_block ?_
    refine wc_seq ?_
    refine wc_region ?_
    refine wl_v rfl rfl rfl (v_move rfl) ?_
    refine wl_v rfl rfl rfl (v_assign rfl) ?_
    refine wl_nil ?_
    refine wc_block ?_
    refine wc_loop (σ := Nat × List Int) (fun s => [(1, .int .i64 a), (2, .int .i64 b), (3, .pointer (some ⟨b3, 0, none⟩)), (6, .int .i64 i), (7, .int .i64 s.1)]) (fun s W => Ins (lnR rows) ys s.2 a i s.1 ∧ Holds w0 (Blk b3 152 [.func (.func 57) #[] #[.pointer (some ⟨b2, 0, none⟩), .pointer (some ⟨b6, 0, none⟩)], .func (.func 83) #[] #[.slice (some ⟨g, 0, none⟩) n n, typeHandle Try.prog 3]] :: LL s.2) W) (fun s => s.1) (i, ys) (sc rfl (sc rfl (sc rfl (sc rfl (sc rfl (sn _)))))) ⟨h3.ins (by omega) (b := b) (by omega) hasc, H⟩ ?_
    rintro ⟨j, zs⟩ W1 ⟨hins, H⟩
    dsimp only at hins H ⊢
    have hzp := hins.perm.trans h3.perm
    have hzl := hzp.length_eq
    have hlo := hins.lo
    have hhi := hins.hi
    refine wc_seq ?_
    refine wc_seq ?_
    refine wc_region ?_
    refine wl_v rfl rfl rfl (v_move rfl) ?_
    refine wl_v rfl rfl rfl (v_move rfl) ?_
    refine wl_v rfl rfl rfl (v_gtr rfl rfl) ?_
    refine wl_v rfl rfl rfl (v_move rfl) ?_
    refine wl_guard rfl rfl rfl (fun g19 => ?_) (fun g19 => ?_)
    · have g19p := of_decide_eq_true g19
      have hj1 : ((j - 1 : Nat) : Int) = (j : Int) - 1 := by omega
      refine wl_v rfl rfl rfl (v_fb (o2 := 0) fa152_0 rfl rfl) ?_
      refine wl_on' rfl rfl g19 ?_
      refine wl_v rfl rfl rfl (v_load one118 rfl (H.at (by repeat constructor) rfl)) ?_
      refine wl_on' rfl rfl g19 ?_
      refine wl_v rfl rfl rfl (v_move rfl) ?_
      refine wl_on' rfl rfl g19 ?_
      refine wl_v rfl rfl rfl (v_move rfl) ?_
      refine wl_on' rfl rfl g19 ?_
      refine wl_v rfl rfl rfl (v_subi rfl rfl (by omega)) ?_
      refine wl_on' rfl rfl g19 ?_
      refine wl_callv (first := []) (captured := [.pointer (some ⟨b2, 0, none⟩), .pointer (some ⟨b6, 0, none⟩)]) en57 rfl rfl rfl (by have h := less_calls (A := some ⟨g, 0, none⟩) (n := n) (c := n) (xs := zs) (i := j) (k := j - 1) (fun u v hu => H.at (.there _ (U2 zs)) hu) (fun u v hu => H.at (.there _ (U6 zs)) hu) (H.rrd (f := fInt .i64) (e := 3) (.there _ (UU zs zs))) (hR.below H.old) (by omega) (by omega) (by omega) (fun x hxm => hrg x (hzp.mem_iff.1 hxm)); rw [hj1] at h; exact h) ?_
      rintro _ w3 ⟨rfl, Hc⟩
      have H4 := H.call0 Hc
      refine wl_v rfl rfl rfl (v_pick_t rfl g19 rfl) ?_
      refine wl_nil ?_
      refine wc_cond rfl (fun c1 => ?_) (fun c1 => ?_)
      · have c1p := of_decide_eq_true c1
        refine wc_skip ?_
        refine wc_seq ?_
        refine wc_block ?_
        refine wc_region ?_
        refine wl_v rfl rfl rfl (v_fb (o2 := 1) fa152_1 rfl rfl) ?_
        refine wl_v rfl rfl rfl (v_load one135 rfl (H4.at (by repeat constructor) rfl)) ?_
        refine wl_v rfl rfl rfl (v_move rfl) ?_
        refine wl_v rfl rfl rfl (v_move rfl) ?_
        refine wl_v rfl rfl rfl (v_subi rfl rfl (by omega)) ?_
        obtain ⟨ws5, hsw, H5⟩ := swap_run (g := g) (n := n) (i := j) (j := j - 1) (xs := zs) H4 (.there _ (UU _ _)) (by omega) (by omega)
        refine wl_extv (first := []) (vs := [.int .i64 ((j : Nat) : Int), .int .i64 ((j - 1 : Nat) : Int)]) (captured := [.slice (some ⟨g, 0, none⟩) n n, typeHandle Try.prog 3]) rfl (by rw [hj1]; rfl) rfl hsw ?_
        refine wl_nil ?_
        refine wc_region ?_
        refine wl_v rfl rfl rfl (v_move rfl) ?_
        refine wl_v rfl rfl rfl (v_subi rfl rfl (by omega)) ?_
        refine wl_v rfl rfl rfl (v_assign rfl) ?_
        refine wl_nil ?_
        exact ⟨(j - 1, swp zs j (j - 1)), by rw [hj1]; exact (sc rfl (sc rfl (sc rfl (sc rfl (sc rfl (sn _)))))), ⟨hins.step (by omega) (by omega) (show (rows.getD (zs.getD (j - 1) 0).toNat []).length < (rows.getD (zs.getD j 0).toNat []).length by omega), H5⟩, by dsimp only; omega⟩
      · have c1p := of_decide_eq_false c1
        refine wc_exit ?_
        refine wc_region ?_
        refine wl_v rfl rfl rfl (v_move rfl) ?_
        refine wl_v rfl rfl rfl (v_addi rfl rfl (by omega)) ?_
        refine wl_v rfl rfl rfl (v_assign rfl) ?_
        refine wl_nil ?_
        exact ⟨(i + 1, zs), (sc rfl (sc rfl (sc rfl (sc rfl (sn _))))), ⟨⟨by dsimp only; omega, .inl (by dsimp only; omega), h3.next hins (by first | (left; omega) | (right; show ¬ ((rows.getD (zs.getD (j - 1) 0).toNat []).length < (rows.getD (zs.getD j 0).toNat []).length); omega)), fun h => absurd h (by dsimp only; omega)⟩, H4⟩, by dsimp only; omega⟩
    · have g19p := of_decide_eq_false g19
      refine wl_off rfl rfl g19 rfl ?_
      refine wl_off rfl rfl g19 rfl ?_
      refine wl_off rfl rfl g19 rfl ?_
      refine wl_off rfl rfl g19 rfl ?_
      refine wl_off rfl rfl g19 rfl ?_
      refine wl_v rfl rfl rfl (v_pick_f rfl g19 rfl) ?_
      refine wl_nil ?_
      refine wc_cond_f rfl ?_
      refine wc_exit ?_
      refine wc_region ?_
      refine wl_v rfl rfl rfl (v_move rfl) ?_
      refine wl_v rfl rfl rfl (v_addi rfl rfl (by omega)) ?_
      refine wl_v rfl rfl rfl (v_assign rfl) ?_
      refine wl_nil ?_
      exact ⟨(i + 1, zs), (sc rfl (sc rfl (sc rfl (sc rfl (sn _))))), ⟨⟨by dsimp only; omega, .inl (by dsimp only; omega), h3.next hins (by first | (left; omega) | (right; show ¬ ((rows.getD (zs.getD (j - 1) 0).toNat []).length < (rows.getD (zs.getD j 0).toNat []).length); omega)), fun h => absurd h (by dsimp only; omega)⟩, H⟩, by dsimp only; omega⟩
  · have c0p := of_decide_eq_false c0
    refine wc_exit ?_
    rcases (show b = i ∨ b ≤ a by omega) with e | e
    · exact ⟨_, res0 rfl, _, rfl, (by rw [e]; exact h3), H.tail⟩
    · exact ⟨_, res0 rfl, _, rfl, (by rw [h9 (by omega)]; exact Srtd.one _ _ (by omega)), H.tail⟩
end Go.Proofs.Ytkpehkadammppaa.Insr
