/- Which of two rows is the longer. -/
import Derived.Test.YtkpehkadammppaaProg
import Derived.Test.YtkpehkadammppaaDflt
set_option linter.unusedVariables false
set_option linter.unusedSimpArgs false
namespace Go.Proofs.Ytkpehkadammppaa.Less
open Go Go.RowKit Go.Proofs.YtkpehkadammppaaFx 
theorem mixed : Try.prog.follows .mixedOrders = true := by kernel_rfl
theorem one23 : One Try.prog 23 := one_of Try.underlying23 rfl (by kernel_rfl)
theorem one3 : One Try.prog 3 := one_of Try.underlying3 rfl (by kernel_rfl)
theorem one39 : One Try.prog 39 := one_of Try.underlying39 rfl (by kernel_rfl)
theorem sz3 : ∀ W, (sizeOf 3).run Try.prog W = .ok 1 W := size_of (by kernel_rfl)
theorem sz39 : ∀ W, (sizeOf 39).run Try.prog W = .ok 1 W := size_of (by kernel_rfl)

set_option maxRecDepth 100000 in
theorem less_calls {A R : Option Addr} {cr b2 b6 n c i k : Nat} {xs : List Int} {rows : List (List Int)} {w : World} (h2 : ∀ j v, ([.slice R rows.length cr] : List Value)[j]? = some v → w.cell? ⟨b2, j, none⟩ = some v) (h6 : ∀ j v, ([.slice A n c] : List Value)[j]? = some v → w.cell? ⟨b6, j, none⟩ = some v)
    (ho : Rd (kInt .i64) w A xs) (hr : Rd (kInt .i64).sl w R rows) (hn : n = xs.length) (hi : i < xs.length) (hk : k < xs.length) (hx : ∀ x ∈ xs, 0 ≤ x ∧ x < rows.length) :
    Calls Try.prog 57 #[.int .i64 i, .int .i64 k, .pointer (some ⟨b2, 0, none⟩), .pointer (some ⟨b6, 0, none⟩)] w fun e w' => ∃ v, e = .returned v ∧ v = .bool (decide (((rows.getD (xs.getD i 0).toNat []).length : Int) > (rows.getD (xs.getD k 0).toNat []).length)) ∧ Holds w [] w' := by
  subst hn
  have g1 := hx _ (getD_mem (z := 0) hi)
  have g2 := hx _ (getD_mem (z := 0) hk)
  refine calls_of Try.func57 rfl Try.ntmps57 rfl ?_
  have H := Holds.start w
  refine wc_seq ?_
  refine wc_region ?_
  refine wl_v rfl rfl rfl (v_assign rfl) ?_
  refine wl_nil ?_
  refine wc_seq ?_
  refine wc_still mixed (by kernel_rfl) ?_
  have Hd := H.drew
  refine ws_v rfl rfl rfl (v_load one23 rfl (Hd.cell (h2 0 _ rfl))) ?_
  refine ws_v rfl rfl rfl (v_load one39 rfl (Hd.cell (h6 0 _ rfl))) ?_
  refine ws_v rfl rfl rfl (v_move rfl) ?_
  refine ws_v rfl rfl rfl (v_idx Try.underlying39 sz3 ho.ad rfl rfl (by omega) (by omega)) ?_
  refine ws_v rfl rfl rfl (v_load one3 rfl (Hd.cell (ho.at1N (i := i) (by omega)))) ?_
  refine ws_v rfl rfl rfl (v_idx Try.underlying23 sz39 hr.ad rfl rfl (by omega) (by omega)) ?_
  obtain ⟨B13, cp13, hc13, hl13, hr13⟩ := hr.atSl (i := (xs.getD i 0)) (by omega) (by omega)
  refine ws_v rfl rfl rfl (v_load one39 rfl (Hd.cell (hc13))) ?_
  refine ws_v rfl rfl rfl (v_len Try.underlying39 rfl) ?_
  refine ws_v rfl rfl rfl (v_load one23 rfl (Hd.cell (h2 0 _ rfl))) ?_
  refine ws_v rfl rfl rfl (v_load one39 rfl (Hd.cell (h6 0 _ rfl))) ?_
  refine ws_v rfl rfl rfl (v_move rfl) ?_
  refine ws_v rfl rfl rfl (v_idx Try.underlying39 sz3 ho.ad rfl rfl (by omega) (by omega)) ?_
  refine ws_v rfl rfl rfl (v_load one3 rfl (Hd.cell (ho.at1N (i := k) (by omega)))) ?_
  refine ws_v rfl rfl rfl (v_idx Try.underlying23 sz39 hr.ad rfl rfl (by omega) (by omega)) ?_
  obtain ⟨B21, cp21, hc21, hl21, hr21⟩ := hr.atSl (i := (xs.getD k 0)) (by omega) (by omega)
  refine ws_v rfl rfl rfl (v_load one39 rfl (Hd.cell (hc21))) ?_
  refine ws_v rfl rfl rfl (v_len Try.underlying39 rfl) ?_
  refine ws_v rfl rfl rfl (v_gtr rfl rfl) ?_
  refine ws_v rfl rfl rfl (v_assign rfl) ?_
  refine ws_nil ?_
  refine wc_ret ?_
  exact ⟨_, res1 rfl rfl, rfl, Hd⟩
end Go.Proofs.Ytkpehkadammppaa.Less
