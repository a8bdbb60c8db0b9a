/- The stable sort of the order. -/
import Derived.Test.YtkpehkadammppaaProg
import Derived.Test.YtkpehkadammppaaMerge
import Derived.Test.YtkpehkadammppaaInsr
import Derived.Test.YtkpehkadammppaaSrt
set_option linter.unusedVariables false
set_option linter.unusedSimpArgs false
namespace Go.Proofs.Ytkpehkadammppaa.Stbl
open Go Go.RowKit Go.Proofs.YtkpehkadammppaaFx Go.Proofs.Ytkpehkadammppaa.SwapW Go.Proofs.Ytkpehkadammppaa.Less Go.Proofs.Ytkpehkadammppaa.Rot Go.Proofs.Ytkpehkadammppaa.Merge Go.Proofs.Ytkpehkadammppaa.Insr
theorem agg152 : Agg Try.prog 152 2 := agg_of Try.underlying152 (by kernel_rfl)
theorem en88 : Enters Try.prog 88 := enters Try.func88 (by kernel_rfl) rfl
theorem en89 : Enters Try.prog 89 := enters Try.func89 (by kernel_rfl) rfl

set_option maxRecDepth 100000 in
theorem stable_calls {R : Option Addr} {cr q2 q6 g n : Nat} {w0 w : World} {xs : List Int} {rows : List (List Int)} {LL : List Int → List Ch} (hR : Rd (kInt .i64).sl w0 R rows) (UU : ∀ x y, Upd (LL x) (Row (fInt .i64) 3 (.slice (some ⟨g, 0, none⟩) n n) x) (Row (fInt .i64) 3 (.slice (some ⟨g, 0, none⟩) n n) y) (LL y)) (U6 : ∀ x, Upd (LL x) (Blk q6 39 [.slice (some ⟨g, 0, none⟩) n n]) (Blk q6 39 [.slice (some ⟨g, 0, none⟩) n n]) (LL x)) (U2 : ∀ x, Upd (LL x) (Blk q2 23 [.slice R rows.length cr]) (Blk q2 23 [.slice R rows.length cr]) (LL x))
    (HH : Holds w0 (LL xs) w) (hn : n = xs.length) (hx : xs.length ≤ 1099511627776) (hrg : ∀ x ∈ xs, 0 ≤ x ∧ x < rows.length) (hasc : Asc xs 0 xs.length) :
    Calls Try.prog 73 #[.agg #[.func (.func 57) #[] #[.pointer (some ⟨q2, 0, none⟩), .pointer (some ⟨q6, 0, none⟩)], .func (.func 83) #[] #[.slice (some ⟨g, 0, none⟩) n n, typeHandle Try.prog 3]], .int .i64 xs.length] w fun e w' => ∃ v, e = .returned v ∧ ∃ ys, v = .tuple #[] ∧ ys.Perm xs ∧ Sd (lnR rows) ys 0 xs.length ∧ Holds w0 (LL ys) w' := by
  refine calls_of Try.func73 rfl Try.ntmps73 rfl ?_
  have H := HH
  refine wc_seq ?_
  refine wc_region ?_
  refine wl_box (cs := [_, _]) H rfl rfl rfl ?_
  intro b2 w1 hb2 H2
  refine wl_nil ?_
  refine wc_seq ?_
  refine wc_region ?_
  refine wl_v rfl rfl rfl (v_assign rfl) ?_
  refine wl_nil ?_
  refine wc_seq ?_
  refine wc_region ?_
  refine wl_v rfl rfl rfl (v_move rfl) ?_
  refine wl_v rfl rfl rfl (v_assign rfl) ?_
  refine wl_v rfl rfl rfl (v_assign rfl) ?_
  refine wl_nil ?_
  refine wc_seq ?_
  refine wc_block ?_
  refine wc_loop (σ := Nat × List Int) (fun s => [(1, .int .i64 xs.length), (2, .pointer (some ⟨b2, 0, none⟩)), (4, .int .i64 20), (5, .int .i64 s.1), (6, .int .i64 (s.1 + 20 : Nat))]) (fun s W => (s.1 ≤ xs.length ∧ Pass (lnR rows) xs xs s.2 20 s.1) ∧ Holds w0 (Blk b2 152 [.func (.func 57) #[] #[.pointer (some ⟨q2, 0, none⟩), .pointer (some ⟨q6, 0, none⟩)], .func (.func 83) #[] #[.slice (some ⟨g, 0, none⟩) n n, typeHandle Try.prog 3]] :: LL s.2) W) (fun s => xs.length - s.1) (0, xs) (sc rfl (sc rfl (sc rfl (sc rfl (sc rfl (sn _)))))) ⟨⟨Nat.zero_le _, Pass.start (by omega) (.refl _)⟩, H2⟩ ?_
  rintro ⟨a, ys⟩ W0 ⟨⟨ha, hp⟩, H⟩
  dsimp only at ha hp H ⊢
  have hyl := hp.perm.length_eq
  refine wc_seq ?_
  refine wc_seq ?_
  refine wc_region ?_
  refine wl_v rfl rfl rfl (v_move rfl) ?_
  refine wl_v rfl rfl rfl (v_move rfl) ?_
  refine wl_v rfl rfl rfl (v_leq rfl rfl) ?_
  refine wl_nil ?_
  refine wc_cond rfl (fun c0 => ?_) (fun c0 => ?_)
  · have c0p := of_decide_eq_true c0
    refine wc_skip ?_
    refine wc_block ?_
    refine wc_seq ?_
    refine wc_region ?_
    refine wl_v rfl rfl rfl (v_loadN agg152 rfl rfl (H.ats (by repeat constructor))) ?_
    refine wl_v rfl rfl rfl (v_move rfl) ?_
    refine wl_v rfl rfl rfl (v_move rfl) ?_
    refine wl_call en88 rfl rfl (insertion_calls (b2 := q2) (b6 := q6) (LL := fun y => Blk b2 152 [.func (.func 57) #[] #[.pointer (some ⟨q2, 0, none⟩), .pointer (some ⟨q6, 0, none⟩)], .func (.func 83) #[] #[.slice (some ⟨g, 0, none⟩) n n, typeHandle Try.prog 3]] :: LL y) (a := a) (b := a + 20) hR (fun x y => .there _ (UU x y)) (fun x => .there _ (U6 x)) (fun x => .there _ (U2 x)) H (by rw [hn]; exact hp.perm.length_eq.symm) (by rw [hp.perm.length_eq]; exact hx) (fun x hxm => hrg x (hp.perm.mem_iff.1 hxm)) (by omega) (by omega) ((hp.asc hasc).cut (by omega))) ?_
    rintro _ w3 ⟨zs, rfl, hs, Hc⟩
    have H4 := Hc
    refine wl_nil ?_
    refine wc_seq ?_
    refine wc_region ?_
    refine wl_v rfl rfl rfl (v_move rfl) ?_
    refine wl_v rfl rfl rfl (v_assign rfl) ?_
    refine wl_nil ?_
    refine wc_region ?_
    refine wl_v rfl rfl rfl (v_move rfl) ?_
    refine wl_v rfl rfl rfl (v_move rfl) ?_
    refine wl_v rfl rfl rfl (v_addi rfl rfl (by omega)) ?_
    refine wl_v rfl rfl rfl (v_assign rfl) ?_
    refine wl_nil ?_
    exact ⟨(a + 20, zs), (sc rfl (sc rfl (sc rfl (sc rfl (sc rfl (sn _)))))), ⟨⟨by dsimp only; omega, hp.next (by omega) hs hp.keeps⟩, H4⟩, by dsimp only; omega⟩
  · have c0p := of_decide_eq_false c0
    refine wc_exit ?_
    refine wc_seq ?_
    refine wc_region ?_
    refine wl_v rfl rfl rfl (v_loadN agg152 rfl rfl (H.ats (by repeat constructor))) ?_
    refine wl_v rfl rfl rfl (v_move rfl) ?_
    refine wl_v rfl rfl rfl (v_move rfl) ?_
    refine wl_call en88 rfl rfl (insertion_calls (b2 := q2) (b6 := q6) (LL := fun y => Blk b2 152 [.func (.func 57) #[] #[.pointer (some ⟨q2, 0, none⟩), .pointer (some ⟨q6, 0, none⟩)], .func (.func 83) #[] #[.slice (some ⟨g, 0, none⟩) n n, typeHandle Try.prog 3]] :: LL y) (a := a) (b := xs.length) hR (fun x y => .there _ (UU x y)) (fun x => .there _ (U6 x)) (fun x => .there _ (U2 x)) H (by rw [hn]; exact hp.perm.length_eq.symm) (by rw [hp.perm.length_eq]; exact hx) (fun x hxm => hrg x (hp.perm.mem_iff.1 hxm)) (by omega) (by omega) ((hp.asc hasc).cut (by omega))) ?_
    rintro _ w5 ⟨zs, rfl, hs, Hc⟩
    have H6 := Hc
    refine wl_nil ?_
    refine wc_block ?_
    refine wc_loop (σ := Nat × List Int) (fun s => [(1, .int .i64 xs.length), (2, .pointer (some ⟨b2, 0, none⟩)), (4, .int .i64 s.1)]) (fun s W => (0 < s.1 ∧ s.1 ≤ 2199023255552 ∧ Runs (lnR rows) xs s.2 s.1 xs.length) ∧ Holds w0 (Blk b2 152 [.func (.func 57) #[] #[.pointer (some ⟨q2, 0, none⟩), .pointer (some ⟨q6, 0, none⟩)], .func (.func 83) #[] #[.slice (some ⟨g, 0, none⟩) n n, typeHandle Try.prog 3]] :: LL s.2) W) (fun s => xs.length - s.1) (20, zs) (sc rfl (sc rfl (sc rfl (sn _)))) ⟨⟨by dsimp only; omega, by dsimp only; omega, hp.done hs hp.keeps ha (by omega)⟩, H6⟩ ?_
    rintro ⟨k, ys⟩ W1 ⟨⟨k1, k2, hr⟩, H⟩
    dsimp only at k1 k2 hr H ⊢
    refine wc_seq ?_
    refine wc_seq ?_
    refine wc_region ?_
    refine wl_v rfl rfl rfl (v_move rfl) ?_
    refine wl_v rfl rfl rfl (v_move rfl) ?_
    refine wl_v rfl rfl rfl (v_lss rfl rfl) ?_
    refine wl_nil ?_
    refine wc_cond rfl (fun c1 => ?_) (fun c1 => ?_)
    · have c1p := of_decide_eq_true c1
      have e2 : IntKind.i64.wrap (2 * (k : Int)) = ((2 * k : Nat) : Int) := by rw [IntWalk.i64_in _ (by omega)]; omega
      have e3 : IntKind.i64.wrap ((k : Int) * 2) = ((2 * k : Nat) : Int) := by rw [IntWalk.i64_in _ (by omega)]; omega
      refine wc_skip ?_
      refine wc_block ?_
      refine wc_seq ?_
      refine wc_region ?_
      refine wl_v rfl rfl rfl (v_move rfl) ?_
      refine wl_v rfl rfl rfl (v_mul rfl rfl) ?_
      rw [e2]
      refine wl_v rfl rfl rfl (v_assign rfl) ?_
      refine wl_v rfl rfl rfl (v_assign rfl) ?_
      refine wl_nil ?_
      refine wc_seq ?_
      refine wc_block ?_
      refine wc_loop (σ := Nat × List Int) (fun s => [(1, .int .i64 xs.length), (2, .pointer (some ⟨b2, 0, none⟩)), (4, .int .i64 k), (5, .int .i64 s.1), (6, .int .i64 (s.1 + 2 * k : Nat))]) (fun s W => (s.1 ≤ xs.length ∧ Pass (lnR rows) xs ys s.2 (2 * k) s.1) ∧ Holds w0 (Blk b2 152 [.func (.func 57) #[] #[.pointer (some ⟨q2, 0, none⟩), .pointer (some ⟨q6, 0, none⟩)], .func (.func 83) #[] #[.slice (some ⟨g, 0, none⟩) n n, typeHandle Try.prog 3]] :: LL s.2) W) (fun s => xs.length - s.1) (0, ys) (by rw [Nat.zero_add]; exact (sc rfl (sc rfl (sc rfl (sc rfl (sc rfl (sn _))))))) ⟨⟨Nat.zero_le _, Pass.start (by omega) hr.perm⟩, H⟩ ?_
      rintro ⟨a, zs⟩ W2 ⟨⟨ha, hp⟩, H⟩
      dsimp only at ha hp H ⊢
      have hzl := hp.perm.length_eq
      refine wc_seq ?_
      refine wc_seq ?_
      refine wc_region ?_
      refine wl_v rfl rfl rfl (v_move rfl) ?_
      refine wl_v rfl rfl rfl (v_move rfl) ?_
      refine wl_v rfl rfl rfl (v_leq rfl rfl) ?_
      refine wl_nil ?_
      refine wc_cond rfl (fun c2 => ?_) (fun c2 => ?_)
      · have c2p := of_decide_eq_true c2
        have ht := hp.two (b := a + 2 * k) hr hasc (by omega) (by omega)
        refine wc_skip ?_
        refine wc_block ?_
        refine wc_seq ?_
        refine wc_region ?_
        refine wl_v rfl rfl rfl (v_loadN agg152 rfl rfl (H.ats (by repeat constructor))) ?_
        refine wl_v rfl rfl rfl (v_move rfl) ?_
        refine wl_v rfl rfl rfl (v_move rfl) ?_
        refine wl_v rfl rfl rfl (v_move rfl) ?_
        refine wl_v rfl rfl rfl (v_addi rfl rfl (by omega)) ?_
        refine wl_v rfl rfl rfl (v_move rfl) ?_
        refine wl_call en89 rfl rfl (merge_ok (a + 2 * k) w0 _ zs (fun y => Blk b2 152 [.func (.func 57) #[] #[.pointer (some ⟨q2, 0, none⟩), .pointer (some ⟨q6, 0, none⟩)], .func (.func 83) #[] #[.slice (some ⟨g, 0, none⟩) n n, typeHandle Try.prog 3]] :: LL y) a (a + k) (a + 2 * k) hR (fun x y => .there _ (UU x y)) (fun x => .there _ (U6 x)) (fun x => .there _ (U2 x)) H (by rw [hn]; exact hp.perm.length_eq.symm) (by rw [hp.perm.length_eq]; exact hx) (fun x hxm => hrg x (hp.perm.mem_iff.1 hxm)) (by omega) (by omega) (by omega) ht.1 (by omega)) ?_
        rintro _ w8 ⟨us, rfl, hs, Hc⟩
        have H9 := Hc
        refine wl_nil ?_
        refine wc_seq ?_
        refine wc_region ?_
        refine wl_v rfl rfl rfl (v_move rfl) ?_
        refine wl_v rfl rfl rfl (v_assign rfl) ?_
        refine wl_nil ?_
        refine wc_region ?_
        refine wl_v rfl rfl rfl (v_move rfl) ?_
        refine wl_v rfl rfl rfl (v_move rfl) ?_
        refine wl_v rfl rfl rfl (v_mul rfl rfl) ?_
        rw [e2]
        refine wl_v rfl rfl rfl (v_addi rfl rfl (by omega)) ?_
        refine wl_v rfl rfl rfl (v_assign rfl) ?_
        refine wl_nil ?_
        exact ⟨(a + 2 * k, us), (sc rfl (sc rfl (sc rfl (sc rfl (sc rfl (sn _)))))), ⟨⟨by dsimp only; omega, hp.next (by omega) hs ht.2⟩, H9⟩, by dsimp only; omega⟩
      · have c2p := of_decide_eq_false c2
        refine wc_exit ?_
        refine wc_seq ?_
        refine wc_seq ?_
        refine wc_region ?_
        refine wl_v rfl rfl rfl (v_move rfl) ?_
        refine wl_v rfl rfl rfl (v_move rfl) ?_
        refine wl_v rfl rfl rfl (v_addi rfl rfl (by omega)) ?_
        refine wl_v rfl rfl rfl (v_assign rfl) ?_
        refine wl_nil ?_
        refine wc_seq ?_
        refine wc_region ?_
        refine wl_v rfl rfl rfl (v_move rfl) ?_
        refine wl_v rfl rfl rfl (v_move rfl) ?_
        refine wl_v rfl rfl rfl (v_lss rfl rfl) ?_
        refine wl_nil ?_
        refine wc_cond rfl (fun c3 => ?_) (fun c3 => ?_)
        · have c3p := of_decide_eq_true c3
          have ht := hp.two (b := xs.length) hr hasc (by omega) (by omega)
          refine wc_region ?_
          refine wl_v rfl rfl rfl (v_loadN agg152 rfl rfl (H.ats (by repeat constructor))) ?_
          refine wl_v rfl rfl rfl (v_move rfl) ?_
          refine wl_v rfl rfl rfl (v_move rfl) ?_
          refine wl_v rfl rfl rfl (v_move rfl) ?_
          refine wl_call en89 rfl rfl (merge_ok (xs.length) w0 _ zs (fun y => Blk b2 152 [.func (.func 57) #[] #[.pointer (some ⟨q2, 0, none⟩), .pointer (some ⟨q6, 0, none⟩)], .func (.func 83) #[] #[.slice (some ⟨g, 0, none⟩) n n, typeHandle Try.prog 3]] :: LL y) a (a + k) (xs.length) hR (fun x y => .there _ (UU x y)) (fun x => .there _ (U6 x)) (fun x => .there _ (U2 x)) H (by rw [hn]; exact hp.perm.length_eq.symm) (by rw [hp.perm.length_eq]; exact hx) (fun x hxm => hrg x (hp.perm.mem_iff.1 hxm)) (by omega) (by omega) (by omega) ht.1 (by omega)) ?_
          rintro _ w11 ⟨us, rfl, hs, Hc⟩
          have H12 := Hc
          refine wl_nil ?_
          refine wc_region ?_
          refine wl_v rfl rfl rfl (v_move rfl) ?_
          refine wl_v rfl rfl rfl (v_mul rfl rfl) ?_
          rw [e3]
          refine wl_v rfl rfl rfl (v_assign rfl) ?_
          refine wl_nil ?_
          first
            | exact ⟨(2 * k, us), (sc rfl (sc rfl (sc rfl (sn _)))), ⟨⟨by dsimp only; omega, by dsimp only; omega, hp.done hs ht.2 ha (by omega)⟩, H12⟩, by dsimp only; omega⟩
            | exact ⟨(2 * k, zs), (sc rfl (sc rfl (sc rfl (sn _)))), ⟨⟨by dsimp only; omega, by dsimp only; omega, hp.done ho.1 ho.2 ha (by omega)⟩, H12⟩, by dsimp only; omega⟩
        · have c3p := of_decide_eq_false c3
          have ho := hp.one hr ha (by omega)
          refine wc_skip ?_
          refine wc_region ?_
          refine wl_v rfl rfl rfl (v_move rfl) ?_
          refine wl_v rfl rfl rfl (v_mul rfl rfl) ?_
          rw [e3]
          refine wl_v rfl rfl rfl (v_assign rfl) ?_
          refine wl_nil ?_
          first
            | exact ⟨(2 * k, us), (sc rfl (sc rfl (sc rfl (sn _)))), ⟨⟨by dsimp only; omega, by dsimp only; omega, hp.done hs ht.2 ha (by omega)⟩, H⟩, by dsimp only; omega⟩
            | exact ⟨(2 * k, zs), (sc rfl (sc rfl (sc rfl (sn _)))), ⟨⟨by dsimp only; omega, by dsimp only; omega, hp.done ho.1 ho.2 ha (by omega)⟩, H⟩, by dsimp only; omega⟩
    · have c1p := of_decide_eq_false c1
      refine wc_exit ?_
      exact ⟨_, res0 rfl, _, rfl, hr.perm, hr.all (by omega), H.tail⟩
end Go.Proofs.Ytkpehkadammppaa.Stbl
