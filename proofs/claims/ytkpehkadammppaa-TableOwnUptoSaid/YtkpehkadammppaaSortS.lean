/- sort.SliceStable of the order, two elements or more. -/
import Derived.Test.YtkpehkadammppaaProg
import Derived.Test.YtkpehkadammppaaStbl
import Derived.Test.YtkpehkadammppaaSortT
set_option linter.unusedVariables false
set_option linter.unusedSimpArgs false
namespace Go.Proofs.Ytkpehkadammppaa.SortS
open Go Go.RowKit Go.Proofs.YtkpehkadammppaaFx Go.Proofs.Ytkpehkadammppaa.SortT Go.Proofs.Ytkpehkadammppaa.Stbl
theorem agg147 : Agg Try.prog 147 3 := agg_of Try.underlying147 (by kernel_rfl)
theorem ba152 : BuildAt Try.prog 152 [.nilFunc, .nilFunc] [(0, 1), (1, 1)] := build_at Try.underlying152 (by kernel_rfl) (by kernel_rfl)
theorem en73 : Enters Try.prog 73 := enters Try.func73 (by kernel_rfl) rfl
theorem sz147 : ∀ W, (sizeOf 147).run Try.prog W = .ok 3 W := size_of (by kernel_rfl)
theorem zv147 : ∀ W, (zeroValue 147).run Try.prog W = .ok (.agg #[.pointer none, .pointer none, .int .u64 0]) W := zero_of (by kernel_rfl)

set_option maxRecDepth 100000 in
theorem sort_calls {R : Option Addr} {cr q2 q6 g n : Nat} {w0 w : World} {xs : List Int} {rows : List (List Int)} {LL : List Int → List Ch} (hR : Rd (kInt .i64).sl w0 R rows) (UU : ∀ x y, Upd (LL x) (Row (fInt .i64) 3 (.slice (some ⟨g, 0, none⟩) n n) x) (Row (fInt .i64) 3 (.slice (some ⟨g, 0, none⟩) n n) y) (LL y)) (U6 : ∀ x, Upd (LL x) (Blk q6 39 [.slice (some ⟨g, 0, none⟩) n n]) (Blk q6 39 [.slice (some ⟨g, 0, none⟩) n n]) (LL x)) (U2 : ∀ x, Upd (LL x) (Blk q2 23 [.slice R rows.length cr]) (Blk q2 23 [.slice R rows.length cr]) (LL x))
    (HH : Holds w0 (LL xs) w) (hn : n = xs.length) (hx : xs.length ≤ 1099511627776) (hrg : ∀ x ∈ xs, 0 ≤ x ∧ x < rows.length) (hasc : Asc xs 0 xs.length) (h2 : 2 ≤ n) :
    Calls Try.prog 56 #[.iface 39 (.slice (some ⟨g, 0, none⟩) n n), .func (.func 57) #[] #[.pointer (some ⟨q2, 0, none⟩), .pointer (some ⟨q6, 0, none⟩)]] w fun e w' => ∃ v, e = .returned v ∧ ∃ ys, v = .tuple #[] ∧ ys.Perm xs ∧ Sd (lnR rows) ys 0 n ∧ Holds w0 (LL ys) w' := by
  refine calls_of Try.func56 rfl Try.ntmps56 rfl ?_
  have H := HH
  refine wc_seq ?_
  refine wc_region ?_
  refine wl_v rfl rfl rfl (v_move rfl) ?_
  refine wl_ext (vs := [.iface 39 (.slice (some ⟨g, 0, none⟩) n n)]) rfl rfl (valueOf_run _) ?_
  have H1 := H.alloc 39 [.slice (some ⟨g, 0, none⟩) n n]
  generalize hbw : w.heap.size = b7 at H1 ⊢
  refine wl_alloc (cs := [.pointer none, .pointer none, .int .u64 0]) H1 rfl zv147 rfl ?_
  intro b4 w2 hb4 H3
  refine wl_store (vs := [_, _, _]) H3 (by repeat constructor) sz147 rfl rfl rfl rfl rfl (by repeat constructor) ?_
  intro w4 H5 hw4
  refine wl_nil ?_
  refine wc_seq ?_
  refine wc_region ?_
  refine wl_v rfl rfl rfl (v_move rfl) ?_
  obtain ⟨fs, sb, hsw, hsw2⟩ := swapper_run (A := some ⟨g, 0, none⟩) (n := n) (c := n) _
  obtain ⟨rfl, rfl⟩ := hsw2 h2
  refine wl_ext (vs := [.iface 39 (.slice (some ⟨g, 0, none⟩) n n)]) rfl rfl hsw ?_
  refine wl_v rfl rfl rfl (v_assign rfl) ?_
  refine wl_nil ?_
  refine wc_region ?_
  refine wl_v rfl rfl rfl (v_move rfl) ?_
  refine wl_v rfl rfl rfl (v_move rfl) ?_
  refine wl_v rfl rfl rfl (v_bld ba152 rfl (by repeat constructor)) ?_
  refine wl_v rfl rfl rfl (v_loadN agg147 rfl rfl (H5.ats (by repeat constructor))) ?_
  refine wl_ext (vs := [.agg #[typeHandle Try.prog 39, .pointer (some ⟨b7, 0, none⟩), .int .u64 151]]) rfl rfl (valueLen_run _ (H5.at (by repeat constructor) rfl)) ?_
  refine wl_call en73 rfl rfl (by have hq := stable_calls (q2 := q2) (q6 := q6) (LL := fun y => Blk b4 147 [typeHandle Try.prog 39, .pointer (some ⟨b7, 0, none⟩), .int .u64 151] :: Blk b7 39 [.slice (some ⟨g, 0, none⟩) n n] :: LL y) hR (fun x y => .there _ (.there _ (UU x y))) (fun x => .there _ (.there _ (U6 x))) (fun x => .there _ (.there _ (U2 x))) H5 hn hx hrg hasc; rw [← hn] at hq; exact hq) ?_
  rintro _ w8 ⟨ys, rfl, hp, hs, Hc⟩
  have H9 := Hc
  refine wl_nil ?_
  exact ⟨_, res0 rfl, _, rfl, hp, hs, H9.tail.tail⟩
end Go.Proofs.Ytkpehkadammppaa.SortS
