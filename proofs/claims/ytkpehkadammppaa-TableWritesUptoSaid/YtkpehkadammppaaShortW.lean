/- Numbers written, seven bits a byte. -/
import Derived.Test.YtkpehkadammppaaProg
import Derived.Test.YtkpehkadammppaaVint
set_option linter.unusedVariables false
set_option linter.unusedSimpArgs false
namespace Go.Proofs.Ytkpehkadammppaa.ShortW
open Go Go.RowKit Go.Proofs.YtkpehkadammppaaFx 
theorem info5 : (Try.prog.info? 5).map (fun i => (i.zero, i.size, i.bytes)) = some (some (.int .u8 0), 1, 1) := by kernel_rfl
theorem sz5 : ∀ W, (sizeOf 5).run Try.prog W = .ok 1 W := size_of (by kernel_rfl)
theorem zv5 : ∀ W, (zeroValue 5).run Try.prog W = .ok (.int .u8 0) W := zero_of (by kernel_rfl)

set_option maxRecDepth 100000 in
theorem short_calls {v : Value} {n : Nat} {w0 w : World} {xs : List Int} {LL : Value → List Int → List Ch} (UU : ∀ v x v' y, Upd (LL v x) (Row (fInt .u8) 5 v x) (Row (fInt .u8) 5 v' y) (LL v' y)) (HH : Holds w0 (LL v xs) w) (hb : (xs ++ vint n).length ≤ 70368744177664) (hn : n ≤ 4611686018427387904) :
    Calls Try.prog 52 #[v, .int .i64 n] w fun e w' => ∃ r, e = .returned r ∧ ∃ A c, r = .slice A (xs ++ vint n).length c ∧ Holds w0 (LL (.slice A (xs ++ vint n).length c) (xs ++ vint n)) w' := by
  refine calls_of Try.func52 rfl Try.ntmps52 rfl ?_
  have H := HH
  refine wc_seq ?_
  refine wc_region ?_
  refine wl_v rfl rfl rfl (v_assign rfl) ?_
  refine wl_nil ?_
  refine wc_seq ?_
  refine wc_block ?_
  refine wc_loop (σ := Nat × Value × List Int) (fun s => [(0, s.2.1), (1, .int .i64 s.1)]) (fun s W => (s.1 ≤ n ∧ s.2.2 ++ vint s.1 = xs ++ vint n) ∧ Holds w0 (LL s.2.1 s.2.2) W) (fun s => s.1) (n, v, xs) (sc rfl (sc rfl (sn _))) ⟨⟨Nat.le_refl _, rfl⟩, H⟩ ?_
  rintro ⟨m, u, ys⟩ W0 ⟨⟨hm, he⟩, H⟩
  dsimp only at hm he H ⊢
  have hl := congrArg List.length he
  rw [List.length_append] at hl
  have hp := vint_pos m
  refine wc_seq ?_
  refine wc_seq ?_
  refine wc_region ?_
  refine wl_v rfl rfl rfl (v_move rfl) ?_
  refine wl_v rfl rfl rfl (v_geq rfl rfl) ?_
  refine wl_nil ?_
  refine wc_cond rfl (fun c0 => ?_) (fun c0 => ?_)
  · have c0p := of_decide_eq_true c0
    refine wc_skip ?_
    refine wc_block ?_
    refine wc_seq ?_
    refine wc_region ?_
    refine wl_v rfl rfl rfl (v_move rfl) ?_
    refine wl_v rfl rfl rfl (v_move rfl) ?_
    refine wl_v rfl rfl rfl (v_conv Try.underlying3 Try.underlying5 rfl) ?_
    refine wl_v rfl rfl rfl (v_or rfl rfl) ?_
    rw [show bits .or .u8 (IntKind.u8.wrap (m : Int)) 128 = ((m % 128 + 128 : Nat) : Int) by rw [IntKind.wrap_u8, or128 (by omega)]; omega]
    refine wl_slit (v := .int .u8 0) (z := [.int .u8 0]) (cs := [.int .u8 ((m % 128 + 128 : Nat) : Int)]) (sz := 1) H rfl Try.underlying64 sz5 zv5 (by decide) (by decide) (by kernel_rfl) rfl (by repeat constructor) ?_
    intro b11 w2 hb11 H2 hs2
    refine wl_app1 (f := fInt .u8) (xs := ys) (y' := ((m % 128 + 128 : Nat) : Int)) (L' := fun v' => Blk b11 5 [.int .u8 ((m % 128 + 128 : Nat) : Int)] :: LL v' (ys ++ [((m % 128 + 128 : Nat) : Int)])) H2 (fun v' => .there _ (UU _ _ _ _)) (.here _ _ _) rfl Try.underlying64 info5 rfl (by decide) rfl rfl rfl (by omega) (by decide) ?_
    intro A12 c12 w3 H30 hs3
    have H3 := H30.tail
    refine wl_v rfl rfl rfl (v_assign rfl) ?_
    refine wl_nil ?_
    refine wc_region ?_
    refine wl_v rfl rfl rfl (v_move rfl) ?_
    refine wl_v rfl rfl rfl (v_shr rfl rfl (by decide) (by decide)) ?_
    rw [show (m : Int) / 2 ^ (7 : Int).toNat = ((m / 128 : Nat) : Int) by rw [show (2 : Int) ^ (7 : Int).toNat = 128 from rfl]; omega]
    refine wl_v rfl rfl rfl (v_assign rfl) ?_
    refine wl_nil ?_
    exact ⟨(m / 128, .slice A12 (ys ++ [((m % 128 + 128 : Nat) : Int)]).length c12, ys ++ [((m % 128 + 128 : Nat) : Int)]), (sc rfl (sc rfl (sn _))), ⟨⟨by dsimp only; omega, by dsimp only; rw [← he, vint_ge (n := m) (by omega), List.append_assoc]; rfl⟩, H3⟩, by dsimp only; omega⟩
  · have c0p := of_decide_eq_false c0
    rw [vint_lt (n := m) (by omega)] at he
    refine wc_exit ?_
    refine wc_seq ?_
    refine wc_region ?_
    refine wl_v rfl rfl rfl (v_move rfl) ?_
    refine wl_v rfl rfl rfl (v_move rfl) ?_
    refine wl_v rfl rfl rfl (v_conv Try.underlying3 Try.underlying5 rfl) ?_
    rw [show IntKind.u8.wrap (m : Int) = (m : Int) by rw [IntKind.wrap_u8]; omega]
    refine wl_slit (v := .int .u8 0) (z := [.int .u8 0]) (cs := [.int .u8 (m : Int)]) (sz := 1) H rfl Try.underlying64 sz5 zv5 (by decide) (by decide) (by kernel_rfl) rfl (by repeat constructor) ?_
    intro b18 w6 hb18 H6 hs6
    refine wl_app1 (f := fInt .u8) (xs := ys) (y' := (m : Int)) (L' := fun v' => Blk b18 5 [.int .u8 (m : Int)] :: LL v' (ys ++ [(m : Int)])) H6 (fun v' => .there _ (UU _ _ _ _)) (.here _ _ _) rfl Try.underlying64 info5 rfl (by decide) rfl rfl rfl (by omega) (by decide) ?_
    intro A19 c19 w7 H70 hs7
    have H7 := H70.tail
    refine wl_v rfl rfl rfl (v_assign rfl) ?_
    refine wl_nil ?_
    refine wc_ret ?_
    rw [he] at H7
    exact ⟨_, res1 rfl rfl, _, _, by rw [he], H7⟩

set_option maxRecDepth 100000 in
theorem uint_calls {n : Nat} {w : World} (hn : n ≤ 4611686018427387904) :
    Calls Try.prog 53 #[.int .i64 n] w fun e w' => ∃ r, e = .returned r ∧ ∃ A c, r = .slice A (vint n).length c ∧ Holds w [Row (fInt .u8) 5 (.slice A (vint n).length c) (vint n)] w' := by
  have hvl := vint_len 10 n (by simp only [Nat.reducePow]; omega) (by decide)
  refine calls_of Try.func53 rfl Try.ntmps53 rfl ?_
  have H := Holds.start w
  refine wc_seq ?_
  refine wc_region ?_
  refine wl_v rfl rfl rfl (v_assign rfl) ?_
  refine wl_nil ?_
  refine wc_seq ?_
  refine wc_region ?_
  refine wl_v rfl rfl rfl (v_assign rfl) ?_
  refine wl_nil ?_
  refine wc_seq ?_
  refine wc_block ?_
  refine wc_loop (σ := Nat × (Option Addr × Nat) × List Int) (fun s => [(0, .int .i64 s.1), (3, .slice s.2.1.1 s.2.2.length s.2.1.2)]) (fun s W => (s.1 ≤ n ∧ s.2.2 ++ vint s.1 = vint n) ∧ Holds w [Row (fInt .u8) 5 (.slice s.2.1.1 s.2.2.length s.2.1.2) s.2.2] W) (fun s => s.1) (n, (none, 0), []) (sc rfl (sc rfl (sn _))) ⟨⟨Nat.le_refl _, rfl⟩, H.nilrow 5 1⟩ ?_
  rintro ⟨m, ⟨A3, c3⟩, ys⟩ W0 ⟨⟨hm, he⟩, H⟩
  dsimp only at hm he H ⊢
  have hl := congrArg List.length he
  rw [List.length_append] at hl
  have hp := vint_pos m
  refine wc_seq ?_
  refine wc_seq ?_
  refine wc_region ?_
  refine wl_v rfl rfl rfl (v_move rfl) ?_
  refine wl_v rfl rfl rfl (v_geq rfl rfl) ?_
  refine wl_nil ?_
  refine wc_cond rfl (fun c0 => ?_) (fun c0 => ?_)
  · have c0p := of_decide_eq_true c0
    refine wc_skip ?_
    refine wc_block ?_
    refine wc_seq ?_
    refine wc_region ?_
    refine wl_v rfl rfl rfl (v_move rfl) ?_
    refine wl_v rfl rfl rfl (v_move rfl) ?_
    refine wl_v rfl rfl rfl (v_rem rfl rfl (by decide)) ?_
    rw [show Int.tmod (m : Int) 128 = ((m % 128 : Nat) : Int) by rw [Int.tmod_eq_emod_of_nonneg (by omega)]; omega]
    refine wl_v rfl rfl rfl (v_addi rfl rfl (by omega)) ?_
    refine wl_v rfl rfl rfl (v_conv Try.underlying3 Try.underlying5 rfl) ?_
    rw [show IntKind.u8.wrap (((m % 128 : Nat) : Int) + 128) = ((m % 128 + 128 : Nat) : Int) by rw [IntKind.wrap_u8]; omega]
    refine wl_slit (v := .int .u8 0) (z := [.int .u8 0]) (cs := [.int .u8 ((m % 128 + 128 : Nat) : Int)]) (sz := 1) H rfl Try.underlying64 sz5 zv5 (by decide) (by decide) (by kernel_rfl) rfl (by repeat constructor) ?_
    intro b11 w3 hb11 H3 hs3
    refine wl_app1 (f := fInt .u8) (xs := ys) (y' := ((m % 128 + 128 : Nat) : Int)) H3 (fun v' => (by repeat constructor)) (by repeat constructor) rfl Try.underlying64 info5 rfl (by decide) rfl rfl rfl (by omega) (by decide) ?_
    intro A12 c12 w4 H40 hs4
    have H4 := H40.tail
    refine wl_v rfl rfl rfl (v_assign rfl) ?_
    refine wl_nil ?_
    refine wc_region ?_
    refine wl_v rfl rfl rfl (v_move rfl) ?_
    refine wl_v rfl rfl rfl (v_quo rfl rfl (by decide)) ?_
    rw [show IntKind.i64.wrap (Int.tdiv (m : Int) 128) = ((m / 128 : Nat) : Int) by rw [Int.tdiv_eq_ediv_of_nonneg (by omega), IntWalk.i64_in _ (by omega)]; omega]
    refine wl_v rfl rfl rfl (v_assign rfl) ?_
    refine wl_nil ?_
    exact ⟨(m / 128, (A12, c12), ys ++ [((m % 128 + 128 : Nat) : Int)]), (sc rfl (sc rfl (sn _))), ⟨⟨by dsimp only; omega, by dsimp only; rw [← he, vint_ge (n := m) (by omega), List.append_assoc]; rfl⟩, H4⟩, by dsimp only; omega⟩
  · have c0p := of_decide_eq_false c0
    rw [vint_lt (n := m) (by omega)] at he
    refine wc_exit ?_
    refine wc_seq ?_
    refine wc_region ?_
    refine wl_v rfl rfl rfl (v_move rfl) ?_
    refine wl_v rfl rfl rfl (v_move rfl) ?_
    refine wl_v rfl rfl rfl (v_conv Try.underlying3 Try.underlying5 rfl) ?_
    rw [show IntKind.u8.wrap (m : Int) = (m : Int) by rw [IntKind.wrap_u8]; omega]
    refine wl_slit (v := .int .u8 0) (z := [.int .u8 0]) (cs := [.int .u8 (m : Int)]) (sz := 1) H rfl Try.underlying64 sz5 zv5 (by decide) (by decide) (by kernel_rfl) rfl (by repeat constructor) ?_
    intro b18 w7 hb18 H7 hs7
    refine wl_app1 (f := fInt .u8) (xs := ys) (y' := (m : Int)) H7 (fun v' => (by repeat constructor)) (by repeat constructor) rfl Try.underlying64 info5 rfl (by decide) rfl rfl rfl (by omega) (by decide) ?_
    intro A19 c19 w8 H80 hs8
    have H8 := H80.tail
    refine wl_v rfl rfl rfl (v_assign rfl) ?_
    refine wl_nil ?_
    refine wc_ret ?_
    rw [he] at H8
    exact ⟨_, res1 rfl rfl, _, _, by rw [he], H8⟩

theorem uint_callsI {x : Int} {w : World} (h0 : 0 ≤ x) (h1 : x ≤ 4611686018427387904) :
    Calls Try.prog 53 #[.int .i64 x] w fun e w' => ∃ r, e = .returned r ∧ ∃ A c, r = .slice A (vint x.toNat).length c ∧ Holds w [Row (fInt .u8) 5 (.slice A (vint x.toNat).length c) (vint x.toNat)] w' := by
  have h := uint_calls (n := x.toNat) (w := w) (by omega)
  rw [Int.toNat_of_nonneg h0] at h
  exact h
end Go.Proofs.Ytkpehkadammppaa.ShortW
