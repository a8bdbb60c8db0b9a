/- sort.SliceStable at one element or none. -/
import Derived.Test.YtkpehkadammppaaProg
import Derived.Test.YtkpehkadammppaaDflt
import Derived.Lib.ReflectliteSlice
import Derived.Laws.Externs
set_option linter.unusedVariables false
set_option linter.unusedSimpArgs false
namespace Go.Proofs.Ytkpehkadammppaa.SortT
open Go Go.RowKit Go.Proofs.YtkpehkadammppaaFx 
theorem agg147 : Agg Try.prog 147 3 := agg_of Try.underlying147 (by kernel_rfl)
theorem agg152 : Agg Try.prog 152 2 := agg_of Try.underlying152 (by kernel_rfl)
theorem ba152 : BuildAt Try.prog 152 [.nilFunc, .nilFunc] [(0, 1), (1, 1)] := build_at Try.underlying152 (by kernel_rfl) (by kernel_rfl)
theorem en73 : Enters Try.prog 73 := enters Try.func73 (by kernel_rfl) rfl
theorem en88 : Enters Try.prog 88 := enters Try.func88 (by kernel_rfl) rfl
theorem sz147 : ∀ W, (sizeOf 147).run Try.prog W = .ok 3 W := size_of (by kernel_rfl)
theorem zv147 : ∀ W, (zeroValue 147).run Try.prog W = .ok (.agg #[.pointer none, .pointer none, .int .u64 0]) W := zero_of (by kernel_rfl)

open Go.Lib Go.Extern in
theorem valueOf_run {A : Option Addr} {n c : Nat} (w : World) : (callFunc 71 #[.iface 39 (.slice A n c)]).run Try.prog w = .ok (.value (.agg #[typeHandle Try.prog 39, .pointer (some ⟨w.heap.size, 0, none⟩), .int .u64 151])) (w.alloc (.cells #[.slice A n c] 39)) := by
  have h : (Try.prog.info? 39).map (·.desc) = some (.slice 3) := by kernel_rfl
  obtain ⟨i, hi, hd⟩ := Option.map_eq_some_iff.1 h
  rw [run_callFunc_extern Try.func71 (by kernel_rfl) (by kernel_rfl) (by kernel_rfl) (e := fun args => ReflectliteValue.unpack (args.getD 0 (.tuple #[]))) (by kernel_rfl)]
  rw [show Sem.run Try.prog ((fun args : Array Value => ReflectliteValue.unpack (args.getD 0 (.tuple #[]))) #[.iface 39 (.slice A n c)]) w = _ from run_valueOf_slice (P := Try.prog) 39 3 i hi hd A n c w]
  rfl
open Go.Lib Go.Extern in
theorem valueLen_run {A : Option Addr} {n c : Nat} {a : Addr} (w : World) (ha : w.cell? a = some (.slice A n c)) : (callFunc 74 #[.agg #[typeHandle Try.prog 39, .pointer (some a), .int .u64 151]]).run Try.prog w = .ok (.value (.int .i64 n)) w := by
  have h : (Try.prog.info? 39).map (·.desc) = some (.slice 3) := by kernel_rfl
  obtain ⟨i, hi, hd⟩ := Option.map_eq_some_iff.1 h
  rw [run_callFunc_extern Try.func74 (by kernel_rfl) (by kernel_rfl) (by kernel_rfl) (e := ReflectliteValue.method (ReflectliteValue.valueError "reflectlite.Value.Len" 0) ReflectliteValue.len) (by kernel_rfl),
    run_valueLen_slice (P := Try.prog) 39 3 i hi hd (by kernel_rfl) a A n c w ha]
  rfl
set_option maxRecDepth 100000 in
open Go.Lib Go.Extern in
theorem swapper_run {A : Option Addr} {n c : Nat} (w : World) : ∃ f b, (callFunc 72 #[.iface 39 (.slice A n c)]).run Try.prog w = .ok (.value (.func (.func f) #[] b)) w ∧ (2 ≤ n → f = 83 ∧ b = #[.slice A n c, typeHandle Try.prog 3]) := by
  have h : (Try.prog.info? 39).map (·.desc) = some (.slice 3) := by kernel_rfl
  obtain ⟨i, hi, hd⟩ := Option.map_eq_some_iff.1 h
  have h2 : (Try.prog.info? 3).map (fun j => (j.desc, j.str, j.hasPointers, j.bytes)) = some (.int .i64, "int", false, 8) := by kernel_rfl
  obtain ⟨ie, hie, hk⟩ := Option.map_eq_some_iff.1 h2
  simp only [Prod.mk.injEq] at hk
  obtain ⟨k1, k2, k3, k4⟩ := hk
  have hke : ∀ w, (Rtype.kind 3).run Try.prog w = .ok 2 w := fun w => by simp [Rtype.kind, Rtype.under, typeInfo, hie, k1, k2, Result.andThen]
  have hx := fun f hf => run_callFunc_extern Try.func72 (by kernel_rfl) (by kernel_rfl) (by kernel_rfl) (e := ReflectliteSwapper.swapper "internal/reflectlite" (ReflectliteValue.valueError "Swapper")) (by kernel_rfl) #[.iface 39 (.slice A n c)] w |>.trans (congrArg (fun r => Result.andThen r fun v w' => Result.ok (Next.value v) w') (run_swapper_slice (P := Try.prog) 39 3 i ie hi hd hie 2 hke A n c f hf w))
  rcases (by omega : n = 0 ∨ n = 1 ∨ 2 ≤ n) with rfl | rfl | hn
  · exact ⟨79, _, hx 79 (by kernel_rfl), fun h => by omega⟩
  · exact ⟨80, _, hx 80 (by kernel_rfl), fun h => by omega⟩
  · have hK : swapperK n ie 2 = 5 := by
      have c : (n == 0) = false := by simp; omega
      have d : (n == 1) = false := by simp; omega
      simp [swapperK, k3, k4, c, d]
    refine ⟨83, _, hx 83 (by rw [hK]; kernel_rfl), fun _ => ⟨rfl, by rw [hK]; rfl⟩⟩

set_option maxRecDepth 100000 in
theorem insertion_none {lf sf : Value} {a b : Int} {w : World} (h1 : lf.oneCell' = true) (h2 : sf.oneCell' = true) (hab : b ≤ a + 1) (ha : 0 ≤ a ∧ a ≤ 1099511627776) :
    Calls Try.prog 88 #[.agg #[lf, sf], .int .i64 a, .int .i64 b] w fun e w' => ∃ v, e = .returned v ∧ v = .tuple #[] ∧ Holds w [] w' := by
  refine calls_of Try.func88 rfl Try.ntmps88 rfl ?_
  have H := Holds.start w
  refine wc_seq ?_
  refine wc_region ?_
  refine wl_box (cs := [_, _]) H rfl rfl rfl ?_
  intro b3 w1 hb3 H2
  refine wl_nil ?_
  refine wc_seq ?_
  refine wc_region ?_
  refine wl_v rfl rfl rfl (v_move rfl) ?_
  refine wl_v rfl rfl rfl (v_addi rfl rfl (by omega)) ?_
  refine wl_v rfl rfl rfl (v_assign rfl) ?_
  refine wl_nil ?_
  refine wc_block ?_
  refine wc_loop (σ := Nat) (fun s => [(2, .int .i64 b), (6, .int .i64 (a + 1))]) (fun s W => Holds w [] W) (fun s => s) 0 (sc rfl (sc rfl (sn _))) (H2.pm (Pm.nil _)) ?_
  rintro i W0 H
  refine wc_seq ?_
  refine wc_seq ?_
  refine wc_region ?_
  refine wl_v rfl rfl rfl (v_move rfl) ?_
  refine wl_v rfl rfl rfl (v_move rfl) ?_
  refine wl_v rfl rfl rfl (v_lss rfl rfl) ?_
  refine wl_nil ?_
  refine wc_cond rfl (fun c0 => ?_) (fun c0 => ?_)
  · have c0p := of_decide_eq_true c0
    exact absurd c0p (by omega)
  · have c0p := of_decide_eq_false c0
    refine wc_exit ?_
    exact ⟨_, res0 rfl, rfl, H⟩

set_option maxRecDepth 100000 in
theorem stable_none {lf sf : Value} {b : Int} {w : World} (h1 : lf.oneCell' = true) (h2 : sf.oneCell' = true) (hb : b ≤ 1) :
    Calls Try.prog 73 #[.agg #[lf, sf], .int .i64 b] w fun e w' => ∃ v, e = .returned v ∧ v = .tuple #[] ∧ Holds w [] w' := by
  refine calls_of Try.func73 rfl Try.ntmps73 rfl ?_
  have H := Holds.start w
  refine wc_seq ?_
  refine wc_region ?_
  refine wl_box (cs := [_, _]) H rfl rfl rfl ?_
  intro b2 w1 hb2 H2
  refine wl_nil ?_
  refine wc_seq ?_
  refine wc_region ?_
  refine wl_v rfl rfl rfl (v_assign rfl) ?_
  refine wl_nil ?_
  refine wc_seq ?_
  refine wc_region ?_
  refine wl_v rfl rfl rfl (v_move rfl) ?_
  refine wl_v rfl rfl rfl (v_assign rfl) ?_
  refine wl_v rfl rfl rfl (v_assign rfl) ?_
  refine wl_nil ?_
  refine wc_seq ?_
  refine wc_block ?_
  refine wc_loop (σ := Nat) (fun s => [(1, .int .i64 b), (2, .pointer (some ⟨b2, 0, none⟩)), (4, .int .i64 20), (5, .int .i64 0), (6, .int .i64 20)]) (fun s W => Holds w [Blk b2 152 [lf, sf]] W) (fun s => s) 0 (sc rfl (sc rfl (sc rfl (sc rfl (sc rfl (sn _)))))) H2 ?_
  rintro i W0 H
  refine wc_seq ?_
  refine wc_seq ?_
  refine wc_region ?_
  refine wl_v rfl rfl rfl (v_move rfl) ?_
  refine wl_v rfl rfl rfl (v_move rfl) ?_
  refine wl_v rfl rfl rfl (v_leq rfl rfl) ?_
  refine wl_nil ?_
  refine wc_cond rfl (fun c0 => ?_) (fun c0 => ?_)
  · have c0p := of_decide_eq_true c0
    exact absurd c0p (by omega)
  · have c0p := of_decide_eq_false c0
    refine wc_exit ?_
    refine wc_seq ?_
    refine wc_region ?_
    refine wl_v rfl rfl rfl (v_loadN agg152 rfl rfl (H.ats (by repeat constructor))) ?_
    refine wl_v rfl rfl rfl (v_move rfl) ?_
    refine wl_v rfl rfl rfl (v_move rfl) ?_
    refine wl_call en88 rfl rfl (insertion_none h1 h2 (by omega) (by omega)) ?_
    rintro _ w3 ⟨rfl, Hc⟩
    have H4 := H.call Hc
    refine wl_nil ?_
    refine wc_block ?_
    refine wc_loop (σ := Nat) (fun s => [(1, .int .i64 b), (4, .int .i64 20)]) (fun s W => Holds w [] W) (fun s => s) 0 (sc rfl (sc rfl (sn _))) (H4.pm (Pm.nil _)) ?_
    rintro i W1 H
    refine wc_seq ?_
    refine wc_seq ?_
    refine wc_region ?_
    refine wl_v rfl rfl rfl (v_move rfl) ?_
    refine wl_v rfl rfl rfl (v_move rfl) ?_
    refine wl_v rfl rfl rfl (v_lss rfl rfl) ?_
    refine wl_nil ?_
    refine wc_cond rfl (fun c1 => ?_) (fun c1 => ?_)
    · have c1p := of_decide_eq_true c1
      exact absurd c1p (by omega)
    · have c1p := of_decide_eq_false c1
      refine wc_exit ?_
      exact ⟨_, res0 rfl, rfl, H⟩

set_option maxRecDepth 100000 in
theorem sort_tiny {A : Option Addr} {m c g : Nat} {cap : Array Value} {w : World} (hm : m ≤ 1) :
    Calls Try.prog 56 #[.iface 39 (.slice A m c), .func (.func g) #[] cap] w fun e w' => ∃ v, e = .returned v ∧ v = .tuple #[] ∧ Holds w [] w' := by
  refine calls_of Try.func56 rfl Try.ntmps56 rfl ?_
  have H := Holds.start w
  refine wc_seq ?_
  refine wc_region ?_
  refine wl_v rfl rfl rfl (v_move rfl) ?_
  refine wl_ext (vs := [.iface 39 (.slice A m c)]) rfl rfl (valueOf_run _) ?_
  have H1 := H.alloc 39 [.slice A m c]
  generalize hbw : w.heap.size = b7 at H1 ⊢
  refine wl_alloc (cs := [.pointer none, .pointer none, .int .u64 0]) H1 rfl zv147 rfl ?_
  intro b4 w2 hb4 H3
  refine wl_store (vs := [_, _, _]) H3 (by repeat constructor) sz147 rfl rfl rfl rfl rfl (by repeat constructor) ?_
  intro w4 H5 hw4
  refine wl_nil ?_
  refine wc_seq ?_
  refine wc_region ?_
  refine wl_v rfl rfl rfl (v_move rfl) ?_
  obtain ⟨fs, sb, hsw, _⟩ := swapper_run (A := A) (n := m) (c := c) _
  refine wl_ext (vs := [.iface 39 (.slice A m c)]) rfl rfl hsw ?_
  refine wl_v rfl rfl rfl (v_assign rfl) ?_
  refine wl_nil ?_
  refine wc_region ?_
  refine wl_v rfl rfl rfl (v_move rfl) ?_
  refine wl_v rfl rfl rfl (v_move rfl) ?_
  refine wl_v rfl rfl rfl (v_bld ba152 rfl (by repeat constructor)) ?_
  refine wl_v rfl rfl rfl (v_loadN agg147 rfl rfl (H5.ats (by repeat constructor))) ?_
  refine wl_ext (vs := [.agg #[typeHandle Try.prog 39, .pointer (some ⟨b7, 0, none⟩), .int .u64 151]]) rfl rfl (valueLen_run _ (H5.at (by repeat constructor) rfl)) ?_
  refine wl_call en73 rfl rfl (stable_none rfl rfl (by omega)) ?_
  rintro _ w8 ⟨rfl, Hc⟩
  have H9 := H5.call Hc
  refine wl_nil ?_
  exact ⟨_, res0 rfl, rfl, H9.pm (Pm.nil _)⟩
end Go.Proofs.Ytkpehkadammppaa.SortT
