/- Read; whether a node is plain; a node with texts in the place of tokens. What is written is read back; texts have no other form. What came in, as it reads. A table's bytes: plain. What came in, its rows' lengths together. Grammars that came in, as they read. Derivations, nodes and data that came in, as they read. How the arguments' types are read (seat 21). -/
import Derived.Test.YtgdemplcpcacaaaProg
import Derived.Test.YtgdemplcpcacaaaK10
import Derived.Test.YtgdemplcpcacaaaK12
import Derived.Test.YtgdemplcpcacaaaK05
import Derived.Test.YtgdemplcpcacaaaRows
import Derived.Test.YtgdemplcpcacaaaK02
import Derived.WalkKit
import Derived.ProofKit
import Derived.OpenShut
import Derived.JoinedCond
import Derived.Deep.Slices
import Derived.Deep.Strs
import Derived.Lib.SmallJoins
import Derived.Carry
import Derived.WideShapes
import Derived.Test.YtgdemplcpcacaaaK03
set_option linter.unusedVariables false
set_option linter.unusedSimpArgs false
/-! Read; whether a node is plain; a node with texts in the place of tokens. -/
namespace Go.Proofs.Ytgdemplcpcacaaa.BackW
open Go Go.RowKit Go.Proofs.YtgdemplcpcacaaaFx Go.Proofs.Ytgdemplcpcacaaa.NodeR
theorem agg24 : Agg Try.prog 24 4 := agg_of Try.underlying24 (by kernel_rfl)
theorem agg27 : Agg Try.prog 27 6 := agg_of Try.underlying27 (by kernel_rfl)
theorem agg34 : Agg Try.prog 34 2 := agg_of Try.underlying34 (by kernel_rfl)
theorem ba24 : BuildAt Try.prog 24 [.int .i64 0, .string ⟨#[]⟩, .int .i64 0, .slice none 0 0] [(0, 1), (1, 1), (2, 1), (3, 1)] := build_at Try.underlying24 (by kernel_rfl) (by kernel_rfl)
theorem ba34 : BuildAt Try.prog 34 [.int .i64 0, .int .i64 0] [(0, 1), (1, 1)] := build_at Try.underlying34 (by kernel_rfl) (by kernel_rfl)
theorem ba96 : BuildAt Try.prog 96 [.string ⟨#[]⟩, .int .i64 0, .bool false] [(0, 1), (1, 1), (2, 1)] := build_at Try.underlying96 (by kernel_rfl) (by kernel_rfl)
theorem en12 : Enters Try.prog 12 := enters Try.func12 (by kernel_rfl) rfl
theorem en15 : Enters Try.prog 15 := enters Try.func15 (by kernel_rfl) rfl
theorem en33 : Enters Try.prog 33 := enters Try.func33 (by kernel_rfl) rfl
theorem fa24_0 : FieldAt Try.prog 24 0 0 := field_at (sz := 0) Try.underlying24 rfl (by kernel_rfl) rfl
theorem fa24_1 : FieldAt Try.prog 24 1 1 := field_at (sz := 0) Try.underlying24 rfl (by kernel_rfl) rfl
theorem fa24_2 : FieldAt Try.prog 24 2 2 := field_at (sz := 0) Try.underlying24 rfl (by kernel_rfl) rfl
theorem fa24_3 : FieldAt Try.prog 24 3 3 := field_at (sz := 0) Try.underlying24 rfl (by kernel_rfl) rfl
theorem fa27_1 : FieldAt Try.prog 27 1 4 := field_at (sz := 0) Try.underlying27 rfl (by kernel_rfl) rfl
theorem fa27_2 : FieldAt Try.prog 27 2 5 := field_at (sz := 0) Try.underlying27 rfl (by kernel_rfl) rfl
theorem fa85_1 : FieldAt Try.prog 85 1 1 := field_at (sz := 0) Try.underlying85 rfl (by kernel_rfl) rfl
theorem fa85_2 : FieldAt Try.prog 85 2 2 := field_at (sz := 0) Try.underlying85 rfl (by kernel_rfl) rfl
theorem fa96_1 : FieldAt Try.prog 96 1 1 := field_at (sz := 0) Try.underlying96 rfl (by kernel_rfl) rfl
theorem fa96_2 : FieldAt Try.prog 96 2 2 := field_at (sz := 0) Try.underlying96 rfl (by kernel_rfl) rfl
theorem info24 : (Try.prog.info? 24).map (fun i => (i.zero, i.size, i.bytes)) = some (some (.agg #[.int .i64 0, .string ⟨#[]⟩, .int .i64 0, .slice none 0 0]), 4, 56) := by kernel_rfl
theorem mixed : Try.prog.follows .mixedOrders = true := by kernel_rfl
theorem one22 : One Try.prog 22 := one_of Try.underlying22 rfl (by kernel_rfl)
theorem one25 : One Try.prog 25 := one_of Try.underlying25 rfl (by kernel_rfl)
theorem one3 : One Try.prog 3 := one_of Try.underlying3 rfl (by kernel_rfl)
theorem one4 : One Try.prog 4 := one_of Try.underlying4 rfl (by kernel_rfl)
theorem one9 : One Try.prog 9 := one_of Try.underlying9 rfl (by kernel_rfl)
theorem sz22 : ∀ W, (sizeOf 22).run Try.prog W = .ok 1 W := size_of (by kernel_rfl)
theorem sz24 : ∀ W, (sizeOf 24).run Try.prog W = .ok 4 W := size_of (by kernel_rfl)
theorem sz34 : ∀ W, (sizeOf 34).run Try.prog W = .ok 2 W := size_of (by kernel_rfl)
theorem sz85 : ∀ W, (sizeOf 85).run Try.prog W = .ok 3 W := size_of (by kernel_rfl)
theorem zv24 : ∀ W, (zeroValue 24).run Try.prog W = .ok (.agg #[.int .i64 0, .string ⟨#[]⟩, .int .i64 0, .slice none 0 0]) W := zero_of (by kernel_rfl)
theorem zv34 : ∀ W, (zeroValue 34).run Try.prog W = .ok (.agg #[.int .i64 0, .int .i64 0]) W := zero_of (by kernel_rfl)

theorem upto0P {p : Nat → Prop} : ∀ j, j < 0 → p j := fun j h => absurd h (Nat.not_lt_zero j)
theorem uptoSP {p : Nat → Prop} {n : Nat} (h : ∀ j, j < n → p j) (hn : p n) : ∀ j, j < n + 1 → p j := fun j hj => by
  rcases Nat.lt_succ_iff_lt_or_eq.1 hj with h1 | h1
  · exact h j h1
  · rw [h1]; exact hn
theorem take_map' {g : Nd → Nd} {ts : List Nd} {i : Nat} (h : i < ts.length) : (ts.take (i + 1)).map g = (ts.take i).map g ++ [g (ts.getD i nd0)] := by
  rw [List.take_add_one, List.getD_eq_getElem?_getD, List.getElem?_eq_getElem h, List.map_append]
  rfl

set_option maxHeartbeats 3200000 in
set_option maxRecDepth 100000 in
theorem read_calls {s : ByteArray} {w : World} (hs : s.size ≤ 274877906944) : Calls Try.prog 13 #[.string s] w fun e w' => ∃ v, e = .returned v ∧ ∃ (t : Nd) (A : Option Addr) (c : Nat) (f1 f2 : Int), v = .tuple #[.agg #[.int .i64 t.x.kind, .string t.x.name, .int .i64 t.x.tok, .slice A t.kids.length c], .agg #[.int .i64 f1, .int .i64 f2]] ∧ RdR s t f1 f2 ∧ Holds w [ORow fNd 24 (.slice A t.kids.length c) t.kids] w' := by
  refine calls_of Try.func13 rfl Try.ntmps13 rfl ?_
  have H := Holds.start w
  refine wcR ?_
  refine wl_alloc (cs := [.int .i64 0, .string ⟨#[]⟩, .int .i64 0, .slice none 0 0]) H rfl zv24 rfl ?_
  intro b2 w1 hb2 H2
  refine wl_alloc (cs := [.int .i64 0, .int .i64 0]) H2 rfl zv34 rfl ?_
  intro b3 w3 hb3 H4
  refine wl_nil ?_
  refine wcR ?_
  refine wM ?_
  refine wV (v_bld ba96 rfl (by repeat constructor)) ?_
  refine wl_box (cs := [_, _, _]) H4 rfl rfl rfl ?_
  intro b8 w5 hb8 H6
  refine wA ?_
  refine wl_nil ?_
  refine wcR ?_
  refine wM ?_
  refine wl_call en33 rfl rfl (node_calls hs s.size 0 (by omega) (Nat.zero_le _) w _ _ b8 (H6.turn (A := Blk b8 96 [.string s, .int .i64 0, .bool false]) (by repeat constructor))) ?_
  rintro _ w7 ⟨t, z, bad, A, c, rfl, hR, Hc⟩
  have hrg := hR.rng (Nat.zero_le _)
  refine wl_alloc (cs := [.int .i64 0, .string ⟨#[]⟩, .int .i64 0, .slice none 0 0]) Hc rfl zv24 rfl ?_
  intro b5 w8 hb5 H9
  refine wl_store (vs := [_, _, _, _]) H9 (by repeat constructor) sz24 rfl rfl rfl rfl rfl (by (repeat constructor)) ?_
  intro w10 H11 hw10
  refine wl_nil ?_
  refine wc_seq ?_
  refine wcR ?_
  refine wM ?_
  refine wV (v_nil rfl) ?_
  refine wV (v_fb (o2 := 2) fa96_2 rfl rfl) ?_
  refine wV (v_load one4 rfl (H11.at (by repeat constructor) rfl)) ?_
  refine wM ?_
  refine wl_guard rfl rfl rfl (fun g15 => ?_) (fun g15 => ?_)
  rotate_left
  ·refine wF g15 ?_
   refine wF g15 ?_
   refine wF g15 ?_
   refine wF g15 ?_
   refine wF g15 ?_
   refine wF g15 ?_
   refine wV (v_pick_t rfl g15 rfl) ?_
   refine wl_nil ?_
   refine wc_cond_t rfl ?_
   refine wc_seq ?_
   refine wc_tree [0, 1, 2, 3, 4, 5] (fun W => Holds w [Blk b8 96 [.string s, .int .i64 z, .bool bad]] W) mixed ?_
   have Hd := H11.drew
   have HSd : Holds w [Blk b8 96 [.string s, .int .i64 z, .bool bad]] _ := Hd.pm (by repeat (first | exact pm_refl _ | exact Pm.nil _ | constructor | refine pm_skip ?_))
   refine wjV (k := 0) rfl HSd (fun W HW => v_bld ba24 rfl (by repeat constructor)) ?_
   refine wjV (k := 1) rfl HSd (fun W HW => v_move rfl) ?_
   refine wjV (k := 2) rfl HSd (fun W HW => v_nil rfl) ?_
   refine wjV (k := 3) rfl HSd (fun W HW => v_fb (o2 := 1) fa96_1 rfl rfl) ?_
   refine wjV (k := 4) rfl HSd (fun W HW => v_load one3 rfl (HW.at (by repeat constructor) rfl)) ?_
   refine wjV (k := 5) rfl HSd (fun W HW => v_bld ba34 rfl (by repeat constructor)) ?_
   refine wj_t (k := 6) rfl (by kernel_rfl) ?_
   refine wl_store (vs := [_, _, _, _]) Hd (by repeat constructor) sz24 rfl rfl rfl rfl rfl (by (repeat constructor)) ?_
   intro w22 H23 hw22
   have HS24 : Holds w [Blk b8 96 [.string s, .int .i64 z, .bool bad]] _ := H23.pm (by repeat (first | exact pm_refl _ | exact Pm.nil _ | constructor | refine pm_skip ?_))
   refine wl_nil (tn ⟨fun _ => HS24, ?_⟩)
   refine wj_t (k := 7) rfl (by kernel_rfl) ?_
   refine wl_store (vs := [_, _]) H23 (by repeat constructor) sz34 rfl rfl rfl rfl rfl (by (repeat constructor)) ?_
   intro w25 H26 hw25
   refine wl_nil (tn ⟨fun hlt => absurd hlt (by rw [show allH _ _ _ = true by kernel_rfl]; simp), ?_⟩)
   refine wj_done (by kernel_rfl) ?_
   refine wc_ret ?_
   first
     | exact ⟨_, resc3 rfl rfl (run_loadVarN agg24 rfl (H26.ats (by repeat constructor))) rfl (run_loadVarN agg34 rfl (H26.ats (by repeat constructor))), t, A, c, 0, 0, rfl, ⟨t, z, bad, hR, hrg.2, .inr ⟨rfl, rfl, rfl, by first | exact g15 | exact of_n_f g15 | exact of_n_t g15, by omega⟩⟩, H26.pm (by repeat (first | exact pm_refl _ | exact Pm.nil _ | constructor | refine pm_skip ?_))⟩
     | exact ⟨_, resc3 rfl rfl (run_loadVarN agg24 rfl (H26.ats (by repeat constructor))) rfl (run_loadVarN agg34 rfl (H26.ats (by repeat constructor))), nd0, none, 0, 5, z, rfl, ⟨t, z, bad, hR, hrg.2, .inl ⟨rfl, rfl, rfl, by first | exact .inr (by omega) | exact .inl g15⟩⟩, (H26.oNil fNd 24).pm (by repeat (first | exact pm_refl _ | exact Pm.nil _ | constructor | refine pm_skip ?_))⟩
  refine wM ?_
  refine wO g15 ?_
  refine wV (v_nil rfl) ?_
  refine wO g15 ?_
  refine wV (v_fb (o2 := 1) fa96_1 rfl rfl) ?_
  refine wO g15 ?_
  refine wV (v_load one3 rfl (H11.at (by repeat constructor) rfl)) ?_
  refine wO g15 ?_
  refine wM ?_
  refine wO g15 ?_
  refine wV (v_lens Try.underlying9 rfl) ?_
  refine wO g15 ?_
  refine wV (v_lss rfl rfl) ?_
  refine wV (v_pick_f rfl g15 rfl) ?_
  refine wl_nil ?_
  refine wc_cond rfl (fun c0 => ?_) (fun c0 => ?_)
  rotate_left
  ·have c0p := oF c0
   refine wc_skip ?_
   refine wcR ?_
   refine wV (v_loadN agg24 rfl rfl (H11.ats (by repeat constructor))) ?_
   refine wV (v_bld ba34 rfl (by repeat constructor)) ?_
   refine wl_store (vs := [_, _, _, _]) H11 (by repeat constructor) sz24 rfl rfl rfl rfl rfl (by (repeat constructor)) ?_
   intro w18 H19 hw18
   refine wl_store (vs := [_, _]) H19 (by repeat constructor) sz34 rfl rfl rfl rfl rfl (by (repeat constructor)) ?_
   intro w20 H21 hw20
   refine wl_nil ?_
   refine wc_ret ?_
   first
     | exact ⟨_, resc3 rfl rfl (run_loadVarN agg24 rfl (H21.ats (by repeat constructor))) rfl (run_loadVarN agg34 rfl (H21.ats (by repeat constructor))), t, A, c, 0, 0, rfl, ⟨t, z, bad, hR, hrg.2, .inr ⟨rfl, rfl, rfl, by first | exact g15 | exact of_n_f g15 | exact of_n_t g15, by omega⟩⟩, H21.pm (by repeat (first | exact pm_refl _ | exact Pm.nil _ | constructor | refine pm_skip ?_))⟩
     | exact ⟨_, resc3 rfl rfl (run_loadVarN agg24 rfl (H21.ats (by repeat constructor))) rfl (run_loadVarN agg34 rfl (H21.ats (by repeat constructor))), nd0, none, 0, 5, z, rfl, ⟨t, z, bad, hR, hrg.2, .inl ⟨rfl, rfl, rfl, by first | exact .inr (by omega) | exact .inl g15⟩⟩, (H21.oNil fNd 24).pm (by repeat (first | exact pm_refl _ | exact Pm.nil _ | constructor | refine pm_skip ?_))⟩
  have c0p := oT c0
  refine wc_seq ?_
  refine wc_tree [0, 1, 2, 3, 4, 5] (fun W => Holds w [Blk b8 96 [.string s, .int .i64 z, .bool bad]] W) mixed ?_
  have Hd := H11.drew
  have HSd : Holds w [Blk b8 96 [.string s, .int .i64 z, .bool bad]] _ := Hd.pm (by repeat (first | exact pm_refl _ | exact Pm.nil _ | constructor | refine pm_skip ?_))
  refine wjV (k := 0) rfl HSd (fun W HW => v_bld ba24 rfl (by repeat constructor)) ?_
  refine wjV (k := 1) rfl HSd (fun W HW => v_move rfl) ?_
  refine wjV (k := 2) rfl HSd (fun W HW => v_nil rfl) ?_
  refine wjV (k := 3) rfl HSd (fun W HW => v_fb (o2 := 1) fa96_1 rfl rfl) ?_
  refine wjV (k := 4) rfl HSd (fun W HW => v_load one3 rfl (HW.at (by repeat constructor) rfl)) ?_
  refine wjV (k := 5) rfl HSd (fun W HW => v_bld ba34 rfl (by repeat constructor)) ?_
  refine wj_t (k := 6) rfl (by kernel_rfl) ?_
  refine wl_store (vs := [_, _, _, _]) Hd (by repeat constructor) sz24 rfl rfl rfl rfl rfl (by (repeat constructor)) ?_
  intro w12 H13 hw12
  have HS14 : Holds w [Blk b8 96 [.string s, .int .i64 z, .bool bad]] _ := H13.pm (by repeat (first | exact pm_refl _ | exact Pm.nil _ | constructor | refine pm_skip ?_))
  refine wl_nil (tn ⟨fun _ => HS14, ?_⟩)
  refine wj_t (k := 7) rfl (by kernel_rfl) ?_
  refine wl_store (vs := [_, _]) H13 (by repeat constructor) sz34 rfl rfl rfl rfl rfl (by (repeat constructor)) ?_
  intro w15 H16 hw15
  refine wl_nil (tn ⟨fun hlt => absurd hlt (by rw [show allH _ _ _ = true by kernel_rfl]; simp), ?_⟩)
  refine wj_done (by kernel_rfl) ?_
  refine wc_ret ?_
  first
    | exact ⟨_, resc3 rfl rfl (run_loadVarN agg24 rfl (H16.ats (by repeat constructor))) rfl (run_loadVarN agg34 rfl (H16.ats (by repeat constructor))), t, A, c, 0, 0, rfl, ⟨t, z, bad, hR, hrg.2, .inr ⟨rfl, rfl, rfl, by first | exact g15 | exact of_n_f g15 | exact of_n_t g15, by omega⟩⟩, H16.pm (by repeat (first | exact pm_refl _ | exact Pm.nil _ | constructor | refine pm_skip ?_))⟩
    | exact ⟨_, resc3 rfl rfl (run_loadVarN agg24 rfl (H16.ats (by repeat constructor))) rfl (run_loadVarN agg34 rfl (H16.ats (by repeat constructor))), nd0, none, 0, 5, z, rfl, ⟨t, z, bad, hR, hrg.2, .inl ⟨rfl, rfl, rfl, by first | exact .inr (by omega) | exact .inl g15⟩⟩, (H16.oNil fNd 24).pm (by repeat (first | exact pm_refl _ | exact Pm.nil _ | constructor | refine pm_skip ?_))⟩

def PlnOk (t : Nd) : Prop := ∀ (w : World) (B : Option Addr) (k : Nat) (hr : Rd (kTr fNd) w B t.kids) (hf : t.All smallN), Calls Try.prog 12 #[.agg #[.int .i64 t.x.kind, .string t.x.name, .int .i64 t.x.tok, .slice B t.kids.length k]] w fun e w' => ∃ v, e = .returned v ∧ v = .bool (dec (t.All plnP)) ∧ Holds w [] w'

set_option maxHeartbeats 3200000 in
set_option maxRecDepth 100000 in
theorem plain_step {t : Nd} {w : World} {B : Option Addr} {k : Nat} (hr : Rd (kTr fNd) w B t.kids) (hf : t.All smallN) (ih : ∀ t' ∈ t.kids, PlnOk t') : Calls Try.prog 12 #[.agg #[.int .i64 t.x.kind, .string t.x.name, .int .i64 t.x.tok, .slice B t.kids.length k]] w fun e w' => ∃ v, e = .returned v ∧ v = .bool (dec (t.All plnP)) ∧ Holds w [] w' := by
  obtain ⟨⟨hsz, hkk⟩, hks⟩ := (Tr.All_eq t).1 hf
  refine calls_of Try.func12 rfl Try.ntmps12 rfl ?_
  have H := Holds.start w
  refine wcR ?_
  refine wl_box (cs := [_, _, _, _]) H rfl rfl rfl ?_
  intro b1 w1 hb1 H2
  refine wA ?_
  refine wl_nil ?_
  refine wc_seq ?_
  refine wcR ?_
  refine wV (v_fb (o2 := 3) fa24_3 rfl rfl) ?_
  refine wV (v_load one22 rfl (H2.at (by repeat constructor) rfl)) ?_
  refine wV (v_len Try.underlying22 rfl) ?_
  refine wM ?_
  refine wl_nil ?_
  refine wc_block ?_
  refine wc_loop (σ := Nat) (fun q => [(1, .pointer (some ⟨b1, 0, none⟩)), (6, .slice B t.kids.length k), (7, .int .i64 t.kids.length), (8, .int .i64 q)]) (fun q W => (q ≤ t.kids.length ∧ ∀ j, j < q → t.x.kind = 3 ∧ (t.kids.getD j nd0).All plnP) ∧ Holds w [Blk b1 24 [.int .i64 t.x.kind, .string t.x.name, .int .i64 t.x.tok, .slice B t.kids.length k]] W) (fun q => t.kids.length - q) 0 (sc rfl (sc rfl (sc rfl (sc rfl (sn _))))) ⟨⟨Nat.zero_le _, upto0P⟩, H2.pm (by repeat (first | exact pm_refl _ | exact Pm.nil _ | constructor | refine pm_skip ?_))⟩ ?_
  rintro i W0 ⟨⟨hi, ha⟩, H⟩
  refine wcR ?_
  refine wV (v_lss rfl rfl) ?_
  refine wl_nil ?_
  refine wc_seq ?_
  refine wc_cond rfl (fun c0 => ?_) (fun c0 => ?_)
  ·have c0p := oT c0
   have hin : i < t.kids.length := by omega
   refine wc_skip ?_
   refine wc_seq ?_
   refine wc_block ?_
   refine wcR ?_
   refine wV (v_idx Try.underlying22 sz24 hr.ad rfl rfl (by omega) (by omega)) ?_
   obtain ⟨B11_, k11_, hc11_, hl11_, hr11_⟩ := hr.atTr nd0 (i := i) (by omega)
   refine wV (v_loadN (cs := [.int .i64 (t.kids.getD i nd0).x.kind, .string (t.kids.getD i nd0).x.name, .int .i64 (t.kids.getD i nd0).x.tok, .slice B11_ (t.kids.getD i nd0).kids.length k11_]) agg24 rfl rfl (fun q_ u_ hu_ => H.cell (hc11_ q_ u_ hu_))) ?_
   refine wl_alloc (cs := [.int .i64 0, .string ⟨#[]⟩, .int .i64 0, .slice none 0 0]) H rfl zv24 rfl ?_
   intro b4 w4 hb4 H5
   refine wl_store (vs := [_, _, _, _]) H5 (by repeat constructor) sz24 rfl rfl rfl rfl rfl (by (repeat constructor)) ?_
   intro w6 H7 hw6
   refine wl_nil ?_
   refine wcR ?_
   refine wV (v_fb (o2 := 0) fa24_0 rfl rfl) ?_
   refine wV (v_load one3 rfl (H7.at (by repeat constructor) rfl)) ?_
   refine wV (v_neq rfl rfl) ?_
   refine wM ?_
   refine wl_guard rfl rfl rfl (fun g15 => ?_) (fun g15 => ?_)
   rotate_left
   ·have g15p := of_nd_t g15
    refine wF g15 ?_
    refine wF g15 ?_
    refine wV (v_pick_t rfl g15 rfl) ?_
    refine wl_nil ?_
    refine wc_cond_t rfl ?_
    refine wcR ?_
    refine wA ?_
    refine wl_nil ?_
    refine wc_ret ?_
    first
      | (have q_ := hk2
         exact ⟨_, res1 rfl rfl, congrArg Value.bool (dec_t ((pln_fin hk1 hk2).2 ⟨by first | exact .inl g24p | exact .inr (.inl g29p) | exact .inr (.inr g34p) | exact .inr (by omega), by first | exact .inl g38p | exact .inr (by omega)⟩)).symm, H7.pm (by repeat (first | exact pm_refl _ | exact Pm.nil _ | constructor | refine pm_skip ?_))⟩)
      | (have q_ := hk2
         exact ⟨_, res1 rfl rfl, congrArg Value.bool (dec_f fun hh => by (have h_ := ((pln_fin hk1 hk2).1 hh).1; rcases h_ with h_ | h_ | h_ <;> first | exact absurd h_ g24p | omega)).symm, H7.pm (by repeat (first | exact pm_refl _ | exact Pm.nil _ | constructor | refine pm_skip ?_))⟩)
      | (have q_ := hk2
         exact ⟨_, res1 rfl rfl, congrArg Value.bool (dec_eq ⟨fun hd => (pln_fin hk1 hk2).2 ⟨by first | exact .inl g24p | exact .inr (.inl g29p) | exact .inr (.inr g34p) | exact .inr (by omega), .inr (of_decide_eq_true hd)⟩, fun hh => decide_eq_true (by have h_ := ((pln_fin hk1 hk2).1 hh).2; omega)⟩), H7.pm (by repeat (first | exact pm_refl _ | exact Pm.nil _ | constructor | refine pm_skip ?_))⟩)
      | (have q_ := g15p
         exact ⟨_, res1 rfl rfl, congrArg Value.bool (dec_f fun hh => by have h_ := ((Tr.All_eq t).1 hh).1.1; omega).symm, H7.pm (by repeat (first | exact pm_refl _ | exact Pm.nil _ | constructor | refine pm_skip ?_))⟩)
      | exact ⟨_, res1 rfl rfl, congrArg Value.bool (dec_f fun hh => of_ndec (by first | exact of_n_t c1 | exact of_n_f c1 | exact c1) (Tr.Alls_at nd0 hin ((Tr.All_eq t).1 hh).2)).symm, H7.pm (by repeat (first | exact pm_refl _ | exact Pm.nil _ | constructor | refine pm_skip ?_))⟩
   have g15p := of_nd_f g15
   refine wV (v_loadN agg24 rfl rfl (H7.ats (by repeat constructor))) ?_
   refine wO g15 ?_
   refine wl_call en12 rfl rfl (ih _ (getD_mem (z := nd0) hin) _ _ _ (hr11_.below H7.old) (Tr.Alls_at nd0 hin hks)) ?_
   rintro _ w8 ⟨rfl, Hc⟩
   have H9 := H7.call0 Hc
   refine wO g15 ?_
   refine wV (v_not rfl) ?_
   refine wV (v_pick_f rfl g15 rfl) ?_
   refine wl_nil ?_
   refine wc_cond rfl (fun c1 => ?_) (fun c1 => ?_)
   rotate_left
   ·have c1p := of_n_f c1
    refine wc_skip ?_
    refine wc_region ?_
    refine wV (v_addi rfl rfl (by omega)) ?_
    refine wM ?_
    refine wl_nil ?_
    exact ⟨i + 1, (sc rfl (sc rfl (sc rfl (sc rfl (sn _))))), ⟨⟨by omega, uptoSP ha ⟨by omega, of_dec (by first | exact of_n_f c1 | exact of_n_t c1 | exact c1)⟩⟩, H9.pm (by repeat (first | exact pm_refl _ | exact Pm.nil _ | constructor | refine pm_skip ?_))⟩, by omega⟩
   have c1p := of_n_t c1
   refine wcR ?_
   refine wA ?_
   refine wl_nil ?_
   refine wc_ret ?_
   first
     | (have q_ := hk2
        exact ⟨_, res1 rfl rfl, congrArg Value.bool (dec_t ((pln_fin hk1 hk2).2 ⟨by first | exact .inl g24p | exact .inr (.inl g29p) | exact .inr (.inr g34p) | exact .inr (by omega), by first | exact .inl g38p | exact .inr (by omega)⟩)).symm, H9.pm (by repeat (first | exact pm_refl _ | exact Pm.nil _ | constructor | refine pm_skip ?_))⟩)
     | (have q_ := hk2
        exact ⟨_, res1 rfl rfl, congrArg Value.bool (dec_f fun hh => by (have h_ := ((pln_fin hk1 hk2).1 hh).1; rcases h_ with h_ | h_ | h_ <;> first | exact absurd h_ g24p | omega)).symm, H9.pm (by repeat (first | exact pm_refl _ | exact Pm.nil _ | constructor | refine pm_skip ?_))⟩)
     | (have q_ := hk2
        exact ⟨_, res1 rfl rfl, congrArg Value.bool (dec_eq ⟨fun hd => (pln_fin hk1 hk2).2 ⟨by first | exact .inl g24p | exact .inr (.inl g29p) | exact .inr (.inr g34p) | exact .inr (by omega), .inr (of_decide_eq_true hd)⟩, fun hh => decide_eq_true (by have h_ := ((pln_fin hk1 hk2).1 hh).2; omega)⟩), H9.pm (by repeat (first | exact pm_refl _ | exact Pm.nil _ | constructor | refine pm_skip ?_))⟩)
     | (have q_ := g15p
        exact ⟨_, res1 rfl rfl, congrArg Value.bool (dec_f fun hh => by have h_ := ((Tr.All_eq t).1 hh).1.1; omega).symm, H9.pm (by repeat (first | exact pm_refl _ | exact Pm.nil _ | constructor | refine pm_skip ?_))⟩)
     | exact ⟨_, res1 rfl rfl, congrArg Value.bool (dec_f fun hh => of_ndec (by first | exact of_n_t c1 | exact of_n_f c1 | exact c1) (Tr.Alls_at nd0 hin ((Tr.All_eq t).1 hh).2)).symm, H9.pm (by repeat (first | exact pm_refl _ | exact Pm.nil _ | constructor | refine pm_skip ?_))⟩
  have c0p := oF c0
  have hk1 : t.x.kind = 3 ∨ t.kids.length = 0 := by (rcases Nat.eq_zero_or_pos t.kids.length with h_ | h_; exact .inr h_; exact .inl (ha 0 (by omega)).1)
  have hk2 : Tr.Alls plnP t.kids := (Tr.Alls_iff _).2 fun t' ht' => by
    obtain ⟨j_, hj_, rfl⟩ := List.mem_iff_getElem.1 ht'
    have h2 := (ha j_ (by omega)).2
    rwa [List.getD_eq_getElem?_getD, List.getElem?_eq_getElem hj_] at h2
  refine wc_exit ?_
  refine wcR ?_
  refine wV (v_fb (o2 := 1) fa24_1 rfl rfl) ?_
  refine wV (v_load one9 rfl (H.at (by repeat constructor) rfl)) ?_
  refine wV (v_eqls rfl rfl) ?_
  refine wM ?_
  refine wl_guard rfl rfl rfl (fun g24 => ?_) (fun g24 => ?_)
  rotate_left
  ·have g24p := oT g24
   refine wF g24 ?_
   refine wF g24 ?_
   refine wV (v_pick_t rfl g24 rfl) ?_
   refine wM ?_
   refine wF rfl ?_
   refine wF rfl ?_
   refine wF rfl ?_
   refine wV (v_pick_t rfl rfl rfl) ?_
   refine wM ?_
   refine wO rfl ?_
   refine wV (v_fb (o2 := 2) fa24_2 rfl rfl) ?_
   refine wO rfl ?_
   refine wV (v_load one3 rfl (H.at (by repeat constructor) rfl)) ?_
   refine wO rfl ?_
   refine wV (v_eql rfl rfl) ?_
   refine wO rfl ?_
   refine wM ?_
   refine wl_guard rfl rfl rfl (fun g38 => ?_) (fun g38 => ?_)
   rotate_left
   ·have g38p := oT g38
    refine wF g38 ?_
    refine wF g38 ?_
    refine wO rfl ?_
    refine wV (v_pick_t rfl g38 rfl) ?_
    refine wV (v_pick_t rfl rfl rfl) ?_
    refine wA ?_
    refine wl_nil ?_
    refine wc_ret ?_
    first
      | (have q_ := hk2
         exact ⟨_, res1 rfl rfl, congrArg Value.bool (dec_t ((pln_fin hk1 hk2).2 ⟨by first | exact .inl g24p | exact .inr (.inl g29p) | exact .inr (.inr g34p) | exact .inr (by omega), by first | exact .inl g38p | exact .inr (by omega)⟩)).symm, H.pm (by repeat (first | exact pm_refl _ | exact Pm.nil _ | constructor | refine pm_skip ?_))⟩)
      | (have q_ := hk2
         exact ⟨_, res1 rfl rfl, congrArg Value.bool (dec_f fun hh => by (have h_ := ((pln_fin hk1 hk2).1 hh).1; rcases h_ with h_ | h_ | h_ <;> first | exact absurd h_ g24p | omega)).symm, H.pm (by repeat (first | exact pm_refl _ | exact Pm.nil _ | constructor | refine pm_skip ?_))⟩)
      | (have q_ := hk2
         exact ⟨_, res1 rfl rfl, congrArg Value.bool (dec_eq ⟨fun hd => (pln_fin hk1 hk2).2 ⟨by first | exact .inl g24p | exact .inr (.inl g29p) | exact .inr (.inr g34p) | exact .inr (by omega), .inr (of_decide_eq_true hd)⟩, fun hh => decide_eq_true (by have h_ := ((pln_fin hk1 hk2).1 hh).2; omega)⟩), H.pm (by repeat (first | exact pm_refl _ | exact Pm.nil _ | constructor | refine pm_skip ?_))⟩)
      | (have q_ := g15p
         exact ⟨_, res1 rfl rfl, congrArg Value.bool (dec_f fun hh => by have h_ := ((Tr.All_eq t).1 hh).1.1; omega).symm, H.pm (by repeat (first | exact pm_refl _ | exact Pm.nil _ | constructor | refine pm_skip ?_))⟩)
      | exact ⟨_, res1 rfl rfl, congrArg Value.bool (dec_f fun hh => of_ndec (by first | exact of_n_t c1 | exact of_n_f c1 | exact c1) (Tr.Alls_at nd0 hin ((Tr.All_eq t).1 hh).2)).symm, H.pm (by repeat (first | exact pm_refl _ | exact Pm.nil _ | constructor | refine pm_skip ?_))⟩
   have g38p := oF g38
   refine wV (v_fb (o2 := 0) fa24_0 rfl rfl) ?_
   refine wO g38 ?_
   refine wV (v_load one3 rfl (H.at (by repeat constructor) rfl)) ?_
   refine wO g38 ?_
   refine wV (v_eql rfl rfl) ?_
   refine wO rfl ?_
   refine wV (v_pick_f rfl g38 rfl) ?_
   refine wV (v_pick_t rfl rfl rfl) ?_
   refine wA ?_
   refine wl_nil ?_
   refine wc_ret ?_
   first
     | (have q_ := hk2
        exact ⟨_, res1 rfl rfl, congrArg Value.bool (dec_t ((pln_fin hk1 hk2).2 ⟨by first | exact .inl g24p | exact .inr (.inl g29p) | exact .inr (.inr g34p) | exact .inr (by omega), by first | exact .inl g38p | exact .inr (by omega)⟩)).symm, H.pm (by repeat (first | exact pm_refl _ | exact Pm.nil _ | constructor | refine pm_skip ?_))⟩)
     | (have q_ := hk2
        exact ⟨_, res1 rfl rfl, congrArg Value.bool (dec_f fun hh => by (have h_ := ((pln_fin hk1 hk2).1 hh).1; rcases h_ with h_ | h_ | h_ <;> first | exact absurd h_ g24p | omega)).symm, H.pm (by repeat (first | exact pm_refl _ | exact Pm.nil _ | constructor | refine pm_skip ?_))⟩)
     | (have q_ := hk2
        exact ⟨_, res1 rfl rfl, congrArg Value.bool (dec_eq ⟨fun hd => (pln_fin hk1 hk2).2 ⟨by first | exact .inl g24p | exact .inr (.inl g29p) | exact .inr (.inr g34p) | exact .inr (by omega), .inr (of_decide_eq_true hd)⟩, fun hh => decide_eq_true (by have h_ := ((pln_fin hk1 hk2).1 hh).2; omega)⟩), H.pm (by repeat (first | exact pm_refl _ | exact Pm.nil _ | constructor | refine pm_skip ?_))⟩)
     | (have q_ := g15p
        exact ⟨_, res1 rfl rfl, congrArg Value.bool (dec_f fun hh => by have h_ := ((Tr.All_eq t).1 hh).1.1; omega).symm, H.pm (by repeat (first | exact pm_refl _ | exact Pm.nil _ | constructor | refine pm_skip ?_))⟩)
     | exact ⟨_, res1 rfl rfl, congrArg Value.bool (dec_f fun hh => of_ndec (by first | exact of_n_t c1 | exact of_n_f c1 | exact c1) (Tr.Alls_at nd0 hin ((Tr.All_eq t).1 hh).2)).symm, H.pm (by repeat (first | exact pm_refl _ | exact Pm.nil _ | constructor | refine pm_skip ?_))⟩
  have g24p := oF g24
  refine wV (v_fb (o2 := 0) fa24_0 rfl rfl) ?_
  refine wO g24 ?_
  refine wV (v_load one3 rfl (H.at (by repeat constructor) rfl)) ?_
  refine wO g24 ?_
  refine wV (v_eql rfl rfl) ?_
  refine wV (v_pick_f rfl g24 rfl) ?_
  refine wM ?_
  refine wl_guard rfl rfl rfl (fun g29 => ?_) (fun g29 => ?_)
  rotate_left
  ·have g29p := oT g29
   refine wF g29 ?_
   refine wF g29 ?_
   refine wV (v_pick_t rfl g29 rfl) ?_
   refine wM ?_
   refine wO rfl ?_
   refine wV (v_fb (o2 := 2) fa24_2 rfl rfl) ?_
   refine wO rfl ?_
   refine wV (v_load one3 rfl (H.at (by repeat constructor) rfl)) ?_
   refine wO rfl ?_
   refine wV (v_eql rfl rfl) ?_
   refine wO rfl ?_
   refine wM ?_
   refine wl_guard rfl rfl rfl (fun g38 => ?_) (fun g38 => ?_)
   rotate_left
   ·have g38p := oT g38
    refine wF g38 ?_
    refine wF g38 ?_
    refine wO rfl ?_
    refine wV (v_pick_t rfl g38 rfl) ?_
    refine wV (v_pick_t rfl rfl rfl) ?_
    refine wA ?_
    refine wl_nil ?_
    refine wc_ret ?_
    first
      | (have q_ := hk2
         exact ⟨_, res1 rfl rfl, congrArg Value.bool (dec_t ((pln_fin hk1 hk2).2 ⟨by first | exact .inl g24p | exact .inr (.inl g29p) | exact .inr (.inr g34p) | exact .inr (by omega), by first | exact .inl g38p | exact .inr (by omega)⟩)).symm, H.pm (by repeat (first | exact pm_refl _ | exact Pm.nil _ | constructor | refine pm_skip ?_))⟩)
      | (have q_ := hk2
         exact ⟨_, res1 rfl rfl, congrArg Value.bool (dec_f fun hh => by (have h_ := ((pln_fin hk1 hk2).1 hh).1; rcases h_ with h_ | h_ | h_ <;> first | exact absurd h_ g24p | omega)).symm, H.pm (by repeat (first | exact pm_refl _ | exact Pm.nil _ | constructor | refine pm_skip ?_))⟩)
      | (have q_ := hk2
         exact ⟨_, res1 rfl rfl, congrArg Value.bool (dec_eq ⟨fun hd => (pln_fin hk1 hk2).2 ⟨by first | exact .inl g24p | exact .inr (.inl g29p) | exact .inr (.inr g34p) | exact .inr (by omega), .inr (of_decide_eq_true hd)⟩, fun hh => decide_eq_true (by have h_ := ((pln_fin hk1 hk2).1 hh).2; omega)⟩), H.pm (by repeat (first | exact pm_refl _ | exact Pm.nil _ | constructor | refine pm_skip ?_))⟩)
      | (have q_ := g15p
         exact ⟨_, res1 rfl rfl, congrArg Value.bool (dec_f fun hh => by have h_ := ((Tr.All_eq t).1 hh).1.1; omega).symm, H.pm (by repeat (first | exact pm_refl _ | exact Pm.nil _ | constructor | refine pm_skip ?_))⟩)
      | exact ⟨_, res1 rfl rfl, congrArg Value.bool (dec_f fun hh => of_ndec (by first | exact of_n_t c1 | exact of_n_f c1 | exact c1) (Tr.Alls_at nd0 hin ((Tr.All_eq t).1 hh).2)).symm, H.pm (by repeat (first | exact pm_refl _ | exact Pm.nil _ | constructor | refine pm_skip ?_))⟩
   have g38p := oF g38
   refine wV (v_fb (o2 := 0) fa24_0 rfl rfl) ?_
   refine wO g38 ?_
   refine wV (v_load one3 rfl (H.at (by repeat constructor) rfl)) ?_
   refine wO g38 ?_
   refine wV (v_eql rfl rfl) ?_
   refine wO rfl ?_
   refine wV (v_pick_f rfl g38 rfl) ?_
   refine wV (v_pick_t rfl rfl rfl) ?_
   refine wA ?_
   refine wl_nil ?_
   refine wc_ret ?_
   first
     | (have q_ := hk2
        exact ⟨_, res1 rfl rfl, congrArg Value.bool (dec_t ((pln_fin hk1 hk2).2 ⟨by first | exact .inl g24p | exact .inr (.inl g29p) | exact .inr (.inr g34p) | exact .inr (by omega), by first | exact .inl g38p | exact .inr (by omega)⟩)).symm, H.pm (by repeat (first | exact pm_refl _ | exact Pm.nil _ | constructor | refine pm_skip ?_))⟩)
     | (have q_ := hk2
        exact ⟨_, res1 rfl rfl, congrArg Value.bool (dec_f fun hh => by (have h_ := ((pln_fin hk1 hk2).1 hh).1; rcases h_ with h_ | h_ | h_ <;> first | exact absurd h_ g24p | omega)).symm, H.pm (by repeat (first | exact pm_refl _ | exact Pm.nil _ | constructor | refine pm_skip ?_))⟩)
     | (have q_ := hk2
        exact ⟨_, res1 rfl rfl, congrArg Value.bool (dec_eq ⟨fun hd => (pln_fin hk1 hk2).2 ⟨by first | exact .inl g24p | exact .inr (.inl g29p) | exact .inr (.inr g34p) | exact .inr (by omega), .inr (of_decide_eq_true hd)⟩, fun hh => decide_eq_true (by have h_ := ((pln_fin hk1 hk2).1 hh).2; omega)⟩), H.pm (by repeat (first | exact pm_refl _ | exact Pm.nil _ | constructor | refine pm_skip ?_))⟩)
     | (have q_ := g15p
        exact ⟨_, res1 rfl rfl, congrArg Value.bool (dec_f fun hh => by have h_ := ((Tr.All_eq t).1 hh).1.1; omega).symm, H.pm (by repeat (first | exact pm_refl _ | exact Pm.nil _ | constructor | refine pm_skip ?_))⟩)
     | exact ⟨_, res1 rfl rfl, congrArg Value.bool (dec_f fun hh => of_ndec (by first | exact of_n_t c1 | exact of_n_f c1 | exact c1) (Tr.Alls_at nd0 hin ((Tr.All_eq t).1 hh).2)).symm, H.pm (by repeat (first | exact pm_refl _ | exact Pm.nil _ | constructor | refine pm_skip ?_))⟩
  have g29p := oF g29
  refine wV (v_fb (o2 := 0) fa24_0 rfl rfl) ?_
  refine wO g29 ?_
  refine wV (v_load one3 rfl (H.at (by repeat constructor) rfl)) ?_
  refine wO g29 ?_
  refine wV (v_eql rfl rfl) ?_
  refine wV (v_pick_f rfl g29 rfl) ?_
  refine wM ?_
  refine wl_guard rfl rfl rfl (fun g34 => ?_) (fun g34 => ?_)
  rotate_left
  ·have g34p := oF g34
   refine wF g34 ?_
   refine wF g34 ?_
   refine wF g34 ?_
   refine wl_offu rfl rfl rfl ?_
   refine wl_offu rfl rfl rfl ?_
   refine wl_offu rfl rfl rfl ?_
   refine wF g34 ?_
   refine wV (v_pick_f rfl g34 rfl) ?_
   refine wA ?_
   refine wl_nil ?_
   refine wc_ret ?_
   first
     | (have q_ := hk2
        exact ⟨_, res1 rfl rfl, congrArg Value.bool (dec_t ((pln_fin hk1 hk2).2 ⟨by first | exact .inl g24p | exact .inr (.inl g29p) | exact .inr (.inr g34p) | exact .inr (by omega), by first | exact .inl g38p | exact .inr (by omega)⟩)).symm, H.pm (by repeat (first | exact pm_refl _ | exact Pm.nil _ | constructor | refine pm_skip ?_))⟩)
     | (have q_ := hk2
        exact ⟨_, res1 rfl rfl, congrArg Value.bool (dec_f fun hh => by (have h_ := ((pln_fin hk1 hk2).1 hh).1; rcases h_ with h_ | h_ | h_ <;> first | exact absurd h_ g24p | omega)).symm, H.pm (by repeat (first | exact pm_refl _ | exact Pm.nil _ | constructor | refine pm_skip ?_))⟩)
     | (have q_ := hk2
        exact ⟨_, res1 rfl rfl, congrArg Value.bool (dec_eq ⟨fun hd => (pln_fin hk1 hk2).2 ⟨by first | exact .inl g24p | exact .inr (.inl g29p) | exact .inr (.inr g34p) | exact .inr (by omega), .inr (of_decide_eq_true hd)⟩, fun hh => decide_eq_true (by have h_ := ((pln_fin hk1 hk2).1 hh).2; omega)⟩), H.pm (by repeat (first | exact pm_refl _ | exact Pm.nil _ | constructor | refine pm_skip ?_))⟩)
     | (have q_ := g15p
        exact ⟨_, res1 rfl rfl, congrArg Value.bool (dec_f fun hh => by have h_ := ((Tr.All_eq t).1 hh).1.1; omega).symm, H.pm (by repeat (first | exact pm_refl _ | exact Pm.nil _ | constructor | refine pm_skip ?_))⟩)
     | exact ⟨_, res1 rfl rfl, congrArg Value.bool (dec_f fun hh => of_ndec (by first | exact of_n_t c1 | exact of_n_f c1 | exact c1) (Tr.Alls_at nd0 hin ((Tr.All_eq t).1 hh).2)).symm, H.pm (by repeat (first | exact pm_refl _ | exact Pm.nil _ | constructor | refine pm_skip ?_))⟩
  have g34p := oT g34
  refine wV (v_fb (o2 := 2) fa24_2 rfl rfl) ?_
  refine wO g34 ?_
  refine wV (v_load one3 rfl (H.at (by repeat constructor) rfl)) ?_
  refine wO g34 ?_
  refine wV (v_eql rfl rfl) ?_
  refine wO g34 ?_
  refine wM ?_
  refine wl_guard rfl rfl rfl (fun g38 => ?_) (fun g38 => ?_)
  rotate_left
  ·have g38p := oT g38
   refine wF g38 ?_
   refine wF g38 ?_
   refine wO g34 ?_
   refine wV (v_pick_t rfl g38 rfl) ?_
   refine wV (v_pick_t rfl g34 rfl) ?_
   refine wA ?_
   refine wl_nil ?_
   refine wc_ret ?_
   first
     | (have q_ := hk2
        exact ⟨_, res1 rfl rfl, congrArg Value.bool (dec_t ((pln_fin hk1 hk2).2 ⟨by first | exact .inl g24p | exact .inr (.inl g29p) | exact .inr (.inr g34p) | exact .inr (by omega), by first | exact .inl g38p | exact .inr (by omega)⟩)).symm, H.pm (by repeat (first | exact pm_refl _ | exact Pm.nil _ | constructor | refine pm_skip ?_))⟩)
     | (have q_ := hk2
        exact ⟨_, res1 rfl rfl, congrArg Value.bool (dec_f fun hh => by (have h_ := ((pln_fin hk1 hk2).1 hh).1; rcases h_ with h_ | h_ | h_ <;> first | exact absurd h_ g24p | omega)).symm, H.pm (by repeat (first | exact pm_refl _ | exact Pm.nil _ | constructor | refine pm_skip ?_))⟩)
     | (have q_ := hk2
        exact ⟨_, res1 rfl rfl, congrArg Value.bool (dec_eq ⟨fun hd => (pln_fin hk1 hk2).2 ⟨by first | exact .inl g24p | exact .inr (.inl g29p) | exact .inr (.inr g34p) | exact .inr (by omega), .inr (of_decide_eq_true hd)⟩, fun hh => decide_eq_true (by have h_ := ((pln_fin hk1 hk2).1 hh).2; omega)⟩), H.pm (by repeat (first | exact pm_refl _ | exact Pm.nil _ | constructor | refine pm_skip ?_))⟩)
     | (have q_ := g15p
        exact ⟨_, res1 rfl rfl, congrArg Value.bool (dec_f fun hh => by have h_ := ((Tr.All_eq t).1 hh).1.1; omega).symm, H.pm (by repeat (first | exact pm_refl _ | exact Pm.nil _ | constructor | refine pm_skip ?_))⟩)
     | exact ⟨_, res1 rfl rfl, congrArg Value.bool (dec_f fun hh => of_ndec (by first | exact of_n_t c1 | exact of_n_f c1 | exact c1) (Tr.Alls_at nd0 hin ((Tr.All_eq t).1 hh).2)).symm, H.pm (by repeat (first | exact pm_refl _ | exact Pm.nil _ | constructor | refine pm_skip ?_))⟩
  have g38p := oF g38
  refine wV (v_fb (o2 := 0) fa24_0 rfl rfl) ?_
  refine wO g38 ?_
  refine wV (v_load one3 rfl (H.at (by repeat constructor) rfl)) ?_
  refine wO g38 ?_
  refine wV (v_eql rfl rfl) ?_
  refine wO g34 ?_
  refine wV (v_pick_f rfl g38 rfl) ?_
  refine wV (v_pick_t rfl g34 rfl) ?_
  refine wA ?_
  refine wl_nil ?_
  refine wc_ret ?_
  first
    | (have q_ := hk2
       exact ⟨_, res1 rfl rfl, congrArg Value.bool (dec_t ((pln_fin hk1 hk2).2 ⟨by first | exact .inl g24p | exact .inr (.inl g29p) | exact .inr (.inr g34p) | exact .inr (by omega), by first | exact .inl g38p | exact .inr (by omega)⟩)).symm, H.pm (by repeat (first | exact pm_refl _ | exact Pm.nil _ | constructor | refine pm_skip ?_))⟩)
    | (have q_ := hk2
       exact ⟨_, res1 rfl rfl, congrArg Value.bool (dec_f fun hh => by (have h_ := ((pln_fin hk1 hk2).1 hh).1; rcases h_ with h_ | h_ | h_ <;> first | exact absurd h_ g24p | omega)).symm, H.pm (by repeat (first | exact pm_refl _ | exact Pm.nil _ | constructor | refine pm_skip ?_))⟩)
    | (have q_ := hk2
       exact ⟨_, res1 rfl rfl, congrArg Value.bool (dec_eq ⟨fun hd => (pln_fin hk1 hk2).2 ⟨by first | exact .inl g24p | exact .inr (.inl g29p) | exact .inr (.inr g34p) | exact .inr (by omega), .inr (of_decide_eq_true hd)⟩, fun hh => decide_eq_true (by have h_ := ((pln_fin hk1 hk2).1 hh).2; omega)⟩), H.pm (by repeat (first | exact pm_refl _ | exact Pm.nil _ | constructor | refine pm_skip ?_))⟩)
    | (have q_ := g15p
       exact ⟨_, res1 rfl rfl, congrArg Value.bool (dec_f fun hh => by have h_ := ((Tr.All_eq t).1 hh).1.1; omega).symm, H.pm (by repeat (first | exact pm_refl _ | exact Pm.nil _ | constructor | refine pm_skip ?_))⟩)
    | exact ⟨_, res1 rfl rfl, congrArg Value.bool (dec_f fun hh => of_ndec (by first | exact of_n_t c1 | exact of_n_f c1 | exact c1) (Tr.Alls_at nd0 hin ((Tr.All_eq t).1 hh).2)).symm, H.pm (by repeat (first | exact pm_refl _ | exact Pm.nil _ | constructor | refine pm_skip ?_))⟩

theorem plain_calls : ∀ t : Nd, PlnOk t := Tr.ind fun x kids ih => fun w B k hr hf => plain_step (t := .mk x kids) hr hf ih

def WordsOk (src : ByteArray) (toks : List Tk) (t : Nd) : Prop := ∀ (w : World) (A B Bu : Option Addr) (k kt ku : Nat) (u : Nd) (hT : Rd fTk.kn w A toks) (hr : Rd (kTr fNd) w B t.kids) (hf : t.All smallN) (hrow : t.All (rowP src toks)), Calls Try.prog 15 #[.agg #[.int .i64 u.x.kind, .string u.x.name, .int .i64 u.x.tok, .slice Bu u.kids.length ku, .string src, .slice A toks.length kt], .agg #[.int .i64 t.x.kind, .string t.x.name, .int .i64 t.x.tok, .slice B t.kids.length k]] w fun e w' => ∃ v, e = .returned v ∧ ∃ (A' : Option Addr) (c : Nat), v = .agg #[.int .i64 (wrd src toks t).x.kind, .string (wrd src toks t).x.name, .int .i64 (wrd src toks t).x.tok, .slice A' (wrd src toks t).kids.length c] ∧ Holds w [ORow fNd 24 (.slice A' (wrd src toks t).kids.length c) (wrd src toks t).kids] w'

set_option maxHeartbeats 3200000 in
set_option maxRecDepth 100000 in
theorem words_step {src : ByteArray} {toks : List Tk} {t u : Nd} {w : World} {A B Bu : Option Addr} {k kt ku : Nat} (hss : src.size ≤ 1099511627776) (htl : toks.length ≤ 1099511627776) (hT : Rd fTk.kn w A toks) (hr : Rd (kTr fNd) w B t.kids) (hf : t.All smallN) (hrow : t.All (rowP src toks)) (ih : ∀ t' ∈ t.kids, WordsOk src toks t') : Calls Try.prog 15 #[.agg #[.int .i64 u.x.kind, .string u.x.name, .int .i64 u.x.tok, .slice Bu u.kids.length ku, .string src, .slice A toks.length kt], .agg #[.int .i64 t.x.kind, .string t.x.name, .int .i64 t.x.tok, .slice B t.kids.length k]] w fun e w' => ∃ v, e = .returned v ∧ ∃ (A' : Option Addr) (c : Nat), v = .agg #[.int .i64 (wrd src toks t).x.kind, .string (wrd src toks t).x.name, .int .i64 (wrd src toks t).x.tok, .slice A' (wrd src toks t).kids.length c] ∧ Holds w [ORow fNd 24 (.slice A' (wrd src toks t).kids.length c) (wrd src toks t).kids] w' := by
  obtain ⟨⟨hsz, hkk⟩, hks⟩ := (Tr.All_eq t).1 hf
  obtain ⟨hrw0, hrws⟩ := (Tr.All_eq t).1 hrow
  refine calls_of Try.func15 rfl Try.ntmps15 rfl ?_
  have H := Holds.start w
  refine wcR ?_
  refine wl_box (cs := [_, _, _, _, _, _]) H rfl rfl rfl ?_
  intro b2 w1 hb2 H2
  refine wl_box (cs := [_, _, _, _]) H2 rfl rfl rfl ?_
  intro b3 w3 hb3 H4
  refine wl_alloc (cs := [.int .i64 0, .string ⟨#[]⟩, .int .i64 0, .slice none 0 0]) H4 rfl zv24 rfl ?_
  intro b4 w5 hb4 H6
  refine wl_nil ?_
  refine wc_seq ?_
  refine wcR ?_
  refine wV (v_fb (o2 := 0) fa24_0 rfl rfl) ?_
  refine wV (v_load one3 rfl (H6.at (by repeat constructor) rfl)) ?_
  refine wV (v_eql rfl rfl) ?_
  refine wl_nil ?_
  refine wc_cond rfl (fun c0 => ?_) (fun c0 => ?_)
  ·have c0p := oT c0
   have hrw1 := hrw0 c0p
   refine wc_seq ?_
   refine wc_tree [0, 1, 2, 3, 4, 5, 6, 7, 8, 9, 10, 11, 12, 13, 14, 15, 16, 17] (fun W => Holds w [Blk b2 27 [.int .i64 u.x.kind, .string u.x.name, .int .i64 u.x.tok, .slice Bu u.kids.length ku, .string src, .slice A toks.length kt], Blk b3 24 [.int .i64 t.x.kind, .string t.x.name, .int .i64 t.x.tok, .slice B t.kids.length k]] W) mixed ?_
   have Hd := H6.drew
   have HSd : Holds w [Blk b2 27 [.int .i64 u.x.kind, .string u.x.name, .int .i64 u.x.tok, .slice Bu u.kids.length ku, .string src, .slice A toks.length kt], Blk b3 24 [.int .i64 t.x.kind, .string t.x.name, .int .i64 t.x.tok, .slice B t.kids.length k]] _ := Hd.pm (by repeat (first | exact pm_refl _ | exact Pm.nil _ | constructor | refine pm_skip ?_))
   refine wjV (k := 0) rfl HSd (fun W HW => v_fb (o2 := 4) fa27_1 rfl rfl) ?_
   refine wjV (k := 1) rfl HSd (fun W HW => v_load one9 rfl (HW.at (by repeat constructor) rfl)) ?_
   refine wjV (k := 2) rfl HSd (fun W HW => v_fb (o2 := 5) fa27_2 rfl rfl) ?_
   refine wjV (k := 3) rfl HSd (fun W HW => v_load one25 rfl (HW.at (by repeat constructor) rfl)) ?_
   refine wjV (k := 4) rfl HSd (fun W HW => v_fb (o2 := 2) fa24_2 rfl rfl) ?_
   refine wjV (k := 5) rfl HSd (fun W HW => v_load one3 rfl (HW.at (by repeat constructor) rfl)) ?_
   refine wjV (k := 6) rfl HSd (fun W HW => v_idx Try.underlying25 sz85 hT.ad rfl rfl (by omega) (by omega)) ?_
   refine wjV (k := 7) rfl HSd (fun W HW => v_fp fa85_1 rfl) ?_
   refine wjV (k := 8) rfl HSd (fun W HW => v_load one3 rfl (HW.cell (hT.at (k := 1) tk0 (by omega) (by omega) rfl))) ?_
   refine wjV (k := 9) rfl HSd (fun W HW => v_fb (o2 := 5) fa27_2 rfl rfl) ?_
   refine wjV (k := 10) rfl HSd (fun W HW => v_load one25 rfl (HW.at (by repeat constructor) rfl)) ?_
   refine wjV (k := 11) rfl HSd (fun W HW => v_fb (o2 := 2) fa24_2 rfl rfl) ?_
   refine wjV (k := 12) rfl HSd (fun W HW => v_load one3 rfl (HW.at (by repeat constructor) rfl)) ?_
   refine wjV (k := 13) rfl HSd (fun W HW => v_idx Try.underlying25 sz85 hT.ad rfl rfl (by omega) (by omega)) ?_
   refine wjV (k := 14) rfl HSd (fun W HW => v_fp fa85_2 rfl) ?_
   refine wjV (k := 15) rfl HSd (fun W HW => v_load one3 rfl (HW.cell (hT.at (k := 2) tk0 (by omega) (by omega) rfl))) ?_
   refine wjV (k := 16) rfl HSd (fun W HW => v_cut Try.underlying9 rfl rfl rfl (by omega) (by omega) (by omega)) ?_
   refine wjV (k := 17) rfl HSd (fun W HW => v_bld ba24 rfl (by repeat constructor)) ?_
   refine wj_t (k := 18) rfl (by kernel_rfl) ?_
   refine wl_store (vs := [_, _, _, _]) Hd (by repeat constructor) sz24 rfl rfl rfl rfl rfl (by (repeat constructor)) ?_
   intro w7 H8 hw7
   refine wl_nil (tn ⟨fun hlt => absurd hlt (by rw [show allH _ _ _ = true by kernel_rfl]; simp), ?_⟩)
   refine wj_done (by kernel_rfl) ?_
   refine wc_ret ?_
   first
     | (have q_ := c1
        have e_ : wrd src toks t = .mk t.x (t.kids.map (wrd src toks)) := by rw [wrd_eq, if_neg c0p]
        exact ⟨_, resc rfl rfl (run_loadVarN agg24 rfl (H8.ats (by repeat constructor))), Ar, cr, by rw [e_]; rfl, by rw [e_]; exact H8.pm (by repeat (first | exact pm_refl _ | exact Pm.nil _ | constructor | refine pm_skip ?_))⟩)
     | (have q_ := c0p
        have e_ : wrd src toks t = .mk ⟨2, tokS src toks t.x, 0⟩ [] := by rw [wrd_eq, if_pos c0p]
        exact ⟨_, resc rfl rfl (run_loadVarN agg24 rfl (H8.ats (by repeat constructor))), none, 0, by rw [e_]; rfl, by rw [e_]; exact (H8.oNil fNd 24).pm (by repeat (first | exact pm_refl _ | exact Pm.nil _ | constructor | refine pm_skip ?_))⟩)
  have c0p := oF c0
  refine wc_skip ?_
  refine wcR ?_
  refine wA ?_
  refine wl_nil ?_
  refine wc_seq ?_
  refine wcR ?_
  refine wV (v_fb (o2 := 3) fa24_3 rfl rfl) ?_
  refine wV (v_load one22 rfl (H6.at (by repeat constructor) rfl)) ?_
  refine wV (v_len Try.underlying22 rfl) ?_
  refine wM ?_
  refine wl_nil ?_
  refine wc_block ?_
  refine wc_loop (σ := Nat × Option Addr × Nat) (fun q => [(2, .pointer (some ⟨b2, 0, none⟩)), (3, .pointer (some ⟨b3, 0, none⟩)), (4, .pointer (some ⟨b4, 0, none⟩)), (5, .slice q.2.1 ((t.kids.take q.1).map (wrd src toks)).length q.2.2), (30, .slice B t.kids.length k), (31, .int .i64 t.kids.length), (32, .int .i64 q.1)]) (fun q W => q.1 ≤ t.kids.length ∧ Holds w [ORow fNd 24 (.slice q.2.1 ((t.kids.take q.1).map (wrd src toks)).length q.2.2) ((t.kids.take q.1).map (wrd src toks)), Blk b4 24 [.int .i64 0, .string ⟨#[]⟩, .int .i64 0, .slice none 0 0], Blk b3 24 [.int .i64 t.x.kind, .string t.x.name, .int .i64 t.x.tok, .slice B t.kids.length k], Blk b2 27 [.int .i64 u.x.kind, .string u.x.name, .int .i64 u.x.tok, .slice Bu u.kids.length ku, .string src, .slice A toks.length kt]] W) (fun q => t.kids.length - q.1) (0, none, 0) (sc rfl (sc rfl (sc rfl (sc rfl (sc rfl (sc rfl (sc rfl (sn _)))))))) ⟨Nat.zero_le _, (H6.oNil fNd 24).pm (by repeat (first | exact pm_refl _ | exact Pm.nil _ | constructor | refine pm_skip ?_))⟩ ?_
  rintro ⟨i, Ar, cr⟩ W0 ⟨hi, H⟩
  dsimp only at hi H ⊢
  refine wcR ?_
  refine wV (v_lss rfl rfl) ?_
  refine wl_nil ?_
  refine wc_seq ?_
  refine wc_cond rfl (fun c1 => ?_) (fun c1 => ?_)
  rotate_left
  ·have c1p := oF c1
   have hie : t.kids.take i = t.kids := List.take_of_length_le (by omega)
   rw [hie] at H ⊢
   refine wc_exit ?_
   refine wcR ?_
   refine wM ?_
   refine wV (v_fb (o2 := 3) fa24_3 rfl rfl) ?_
   refine wl_store (vs := [_]) H (by repeat constructor) sz22 rfl rfl rfl rfl rfl (by (repeat constructor)) ?_
   intro w19 H20 hw19
   refine wl_nil ?_
   refine wcR ?_
   refine wV (v_loadN agg24 rfl rfl (H20.ats (by repeat constructor))) ?_
   refine wl_store (vs := [_, _, _, _]) H20 (by repeat constructor) sz24 rfl rfl rfl rfl rfl (by (repeat constructor)) ?_
   intro w21 H22 hw21
   refine wl_nil ?_
   refine wc_ret ?_
   first
     | (have q_ := c1
        have e_ : wrd src toks t = .mk t.x (t.kids.map (wrd src toks)) := by rw [wrd_eq, if_neg c0p]
        exact ⟨_, resc rfl rfl (run_loadVarN agg24 rfl (H22.ats (by repeat constructor))), Ar, cr, by rw [e_]; rfl, by rw [e_]; exact H22.pm (by repeat (first | exact pm_refl _ | exact Pm.nil _ | constructor | refine pm_skip ?_))⟩)
     | (have q_ := c0p
        have e_ : wrd src toks t = .mk ⟨2, tokS src toks t.x, 0⟩ [] := by rw [wrd_eq, if_pos c0p]
        exact ⟨_, resc rfl rfl (run_loadVarN agg24 rfl (H22.ats (by repeat constructor))), none, 0, by rw [e_]; rfl, by rw [e_]; exact (H22.oNil fNd 24).pm (by repeat (first | exact pm_refl _ | exact Pm.nil _ | constructor | refine pm_skip ?_))⟩)
  have c1p := oT c1
  have hin : i < t.kids.length := by omega
  refine wc_skip ?_
  refine wc_seq ?_
  refine wc_block ?_
  refine wcR ?_
  refine wV (v_idx Try.underlying22 sz24 hr.ad rfl rfl (by omega) (by omega)) ?_
  obtain ⟨B35_, k35_, hc35_, hl35_, hr35_⟩ := hr.atTr nd0 (i := i) (by omega)
  refine wV (v_loadN (cs := [.int .i64 (t.kids.getD i nd0).x.kind, .string (t.kids.getD i nd0).x.name, .int .i64 (t.kids.getD i nd0).x.tok, .slice B35_ (t.kids.getD i nd0).kids.length k35_]) agg24 rfl rfl (fun q_ u_ hu_ => H.cell (hc35_ q_ u_ hu_))) ?_
  refine wl_alloc (cs := [.int .i64 0, .string ⟨#[]⟩, .int .i64 0, .slice none 0 0]) H rfl zv24 rfl ?_
  intro b7 w11 hb7 H12
  refine wl_store (vs := [_, _, _, _]) H12 (by repeat constructor) sz24 rfl rfl rfl rfl rfl (by (repeat constructor)) ?_
  intro w13 H14 hw13
  refine wl_nil ?_
  refine wc_region ?_
  refine wM ?_
  refine wV (v_loadN agg27 rfl rfl (H14.ats (by repeat constructor))) ?_
  refine wV (v_loadN agg24 rfl rfl (H14.ats (by repeat constructor))) ?_
  refine wl_call en15 rfl rfl (ih _ (getD_mem (z := nd0) hin) _ A _ Bu _ kt ku u (hT.below H14.old) (hr35_.below H14.old) (Tr.Alls_at nd0 hin hks) (Tr.Alls_at nd0 hin hrws)) ?_
  rintro _ w15 ⟨Ax, cx, rfl, Hc⟩
  have H16 := H14.call1 Hc
  refine wl_slit (v := .agg #[.int .i64 0, .string ⟨#[]⟩, .int .i64 0, .slice none 0 0]) (z := [.int .i64 0, .string ⟨#[]⟩, .int .i64 0, .slice none 0 0]) (cs := [.int .i64 (wrd src toks (t.kids.getD i nd0)).x.kind, .string (wrd src toks (t.kids.getD i nd0)).x.name, .int .i64 (wrd src toks (t.kids.getD i nd0)).x.tok, .slice Ax (wrd src toks (t.kids.getD i nd0)).kids.length cx]) (sz := 4) H16 rfl Try.underlying22 sz24 zv24 (by decide) (by decide) (by kernel_rfl) rfl (by repeat constructor) ?_
  intro b40 w17 hb40 H17 hs17
  refine wl_appO (f := fNd) (t' := wrd src toks (t.kids.getD i nd0)) (u := .slice Ax (wrd src toks (t.kids.getD i nd0)).kids.length cx) H17 (by repeat constructor) (by repeat constructor) (H17.ats (by repeat constructor)) rfl Try.underlying22 info24 rfl rfl rfl (by rw [List.length_map, List.length_take]; omega) (by decide) ?_
  intro A41 c41 w18 H18 hs18
  rw [← take_map' hin] at H18 ⊢
  refine wA ?_
  refine wl_nil ?_
  refine wc_region ?_
  refine wV (v_addi rfl rfl (by omega)) ?_
  refine wM ?_
  refine wl_nil ?_
  exact ⟨(i + 1, A41, c41), (sc rfl (sc rfl (sc rfl (sc rfl (sc rfl (sc rfl (sc rfl (sn _)))))))), ⟨by dsimp only; omega, H18.pm (by repeat (first | exact pm_refl _ | exact Pm.nil _ | constructor | refine pm_skip ?_))⟩, by dsimp only; omega⟩

theorem words_calls {src : ByteArray} {toks : List Tk} (hss : src.size ≤ 1099511627776) (htl : toks.length ≤ 1099511627776) : ∀ t : Nd, WordsOk src toks t := Tr.ind fun x kids ih => fun w A B Bu k kt ku u hT hr hf hrow => words_step (t := .mk x kids) hss htl hT hr hf hrow ih
end Go.Proofs.Ytgdemplcpcacaaa.BackW

/-! What is written is read back; texts have no other form. -/
namespace Go.Proofs.Ytgdemplcpcacaaa.BBack
open Go Go.RowKit Go.Proofs.YtgdemplcpcacaaaFx Go.Proofs.Ytgdemplcpcacaaa.AliveB Go.Proofs.Ytgdemplcpcacaaa.WriteW Go.Proofs.Ytgdemplcpcacaaa.SameN Go.Proofs.Ytgdemplcpcacaaa.BackW Go.Proofs.Ytgdemplcpcacaaa.NodeR
theorem agg24 : Agg Try.prog 24 4 := agg_of Try.underlying24 (by kernel_rfl)
theorem agg27 : Agg Try.prog 27 6 := agg_of Try.underlying27 (by kernel_rfl)
theorem agg34 : Agg Try.prog 34 2 := agg_of Try.underlying34 (by kernel_rfl)
theorem ba24 : BuildAt Try.prog 24 [.int .i64 0, .string ⟨#[]⟩, .int .i64 0, .slice none 0 0] [(0, 1), (1, 1), (2, 1), (3, 1)] := build_at Try.underlying24 (by kernel_rfl) (by kernel_rfl)
theorem ba34 : BuildAt Try.prog 34 [.int .i64 0, .int .i64 0] [(0, 1), (1, 1)] := build_at Try.underlying34 (by kernel_rfl) (by kernel_rfl)
theorem en10 : Enters Try.prog 10 := enters Try.func10 (by kernel_rfl) rfl
theorem en11 : Enters Try.prog 11 := enters Try.func11 (by kernel_rfl) rfl
theorem en12 : Enters Try.prog 12 := enters Try.func12 (by kernel_rfl) rfl
theorem en13 : Enters Try.prog 13 := enters Try.func13 (by kernel_rfl) rfl
theorem en14 : Enters Try.prog 14 := enters Try.func14 (by kernel_rfl) rfl
theorem en15 : Enters Try.prog 15 := enters Try.func15 (by kernel_rfl) rfl
theorem eqm34 : EqlMv Try.prog 34 := eql_mv2 (e := 29) (e2 := 3) Try.underlying34 (by kernel_rfl) (by kernel_rfl) Try.underlying29 Try.underlying3 rfl rfl
theorem fa27_0 : FieldAt Try.prog 27 0 0 := field_at (sz := 3) Try.underlying27 rfl (by kernel_rfl) rfl
theorem fa27_1 : FieldAt Try.prog 27 1 4 := field_at (sz := 0) Try.underlying27 rfl (by kernel_rfl) rfl
theorem fa27_2 : FieldAt Try.prog 27 2 5 := field_at (sz := 0) Try.underlying27 rfl (by kernel_rfl) rfl
theorem fa34_0 : FieldAt Try.prog 34 0 0 := field_at (sz := 0) Try.underlying34 rfl (by kernel_rfl) rfl
theorem fa34_1 : FieldAt Try.prog 34 1 1 := field_at (sz := 0) Try.underlying34 rfl (by kernel_rfl) rfl
theorem mixed : Try.prog.follows .mixedOrders = true := by kernel_rfl
theorem one25 : One Try.prog 25 := one_of Try.underlying25 rfl (by kernel_rfl)
theorem one29 : One Try.prog 29 := one_of Try.underlying29 rfl (by kernel_rfl)
theorem one3 : One Try.prog 3 := one_of Try.underlying3 rfl (by kernel_rfl)
theorem one9 : One Try.prog 9 := one_of Try.underlying9 rfl (by kernel_rfl)
theorem sz24 : ∀ W, (sizeOf 24).run Try.prog W = .ok 4 W := size_of (by kernel_rfl)
theorem sz34 : ∀ W, (sizeOf 34).run Try.prog W = .ok 2 W := size_of (by kernel_rfl)
theorem zv24 : ∀ W, (zeroValue 24).run Try.prog W = .ok (.agg #[.int .i64 0, .string ⟨#[]⟩, .int .i64 0, .slice none 0 0]) W := zero_of (by kernel_rfl)
theorem zv34 : ∀ W, (zeroValue 34).run Try.prog W = .ok (.agg #[.int .i64 0, .int .i64 0]) W := zero_of (by kernel_rfl)

theorem txE_zero {src : ByteArray} {toks : List Tk} {t : Nd} (h : txE src toks t = 0) : t.All (rowP src toks) ∧ t.All namP ∧ t.All (lonP toks) := by
  rcases Classical.em (t.All (rowP src toks)) with h1 | h1
  · rcases Classical.em (t.All namP) with h2 | h2
    · rcases Classical.em (t.All (lonP toks)) with h3 | h3
      · exact ⟨h1, h2, h3⟩
      · rw [(txE_lon h1 h2 h3).1] at h
        exact absurd h (by decide)
    · rw [(txE_nam h1 h2).1] at h
      exact absurd h (by decide)
  · rw [(txE_row h1).1] at h
    exact absurd h (by decide)

set_option maxHeartbeats 6400000 in
set_option maxRecDepth 100000 in
theorem back_calls {src s : ByteArray} {toks : List Tk} {t : Nd} {A B : Option Addr} {k kt : Nat} {w : World} (hss : src.size ≤ 1048576) (htl : toks.length ≤ 1048576) (hT : Rd fTk.kn w A toks) (hr : Rd (kTr fNd) w B t.kids) (hf : t.All smallN) (hcn : t.cnt ≤ 1048576) (hs : s.size ≤ 1048576) : Calls Try.prog 3 #[.agg #[.int .i64 t.x.kind, .string t.x.name, .int .i64 t.x.tok, .slice B t.kids.length k, .string src, .slice A toks.length kt], .string s] w fun e w' => ∃ v, e = .returned v ∧ v = .bool true ∧ Holds w [] w' := by
  refine calls_of Try.func3 rfl Try.ntmps3 rfl ?_
  have H := Holds.start w
  refine wcR ?_
  refine wl_box (cs := [_, _, _, _, _, _]) H rfl rfl rfl ?_
  intro b2 w1 hb2 H2
  refine wA ?_
  refine wl_nil ?_
  refine wc_seq ?_
  refine wcR ?_
  refine wl_call en10 rfl rfl (alive_calls) ?_
  rintro _ w3 ⟨rfl, Hc⟩
  have H4 := H2.call0 Hc
  refine wV (v_not rfl) ?_
  refine wl_nil ?_
  refine wc_cond_f rfl ?_
  refine wc_skip ?_
  refine wcR ?_
  refine wV (v_fb (o2 := 0) fa27_0 rfl rfl) ?_
  refine wV (v_loadN (cs := [_, _, _, _]) agg24 rfl rfl (H4.atsN (k := 4) (by repeat constructor) rfl)) ?_
  refine wV (v_fb (o2 := 4) fa27_1 rfl rfl) ?_
  refine wV (v_load one9 rfl (H4.at (by repeat constructor) rfl)) ?_
  refine wV (v_fb (o2 := 5) fa27_2 rfl rfl) ?_
  refine wV (v_load one25 rfl (H4.at (by repeat constructor) rfl)) ?_
  refine wl_call en11 rfl rfl (ptext_calls (by omega) (by omega) (hT.below H4.old) (hr.below H4.old) hf (by omega)) ?_
  rintro _ w5 ⟨rfl, Hc⟩
  have H6 := H4.call0 Hc
  refine wM ?_
  refine wV (v_extract rfl rfl) ?_
  refine wV (v_extract rfl rfl) ?_
  refine wA ?_
  refine wA ?_
  refine wl_nil ?_
  refine wc_cut (σ := Unit) (fun q => [(1, .string s)]) (fun q W => Holds w [] W) ?_ ?_
  rotate_left
  ·rintro ⟨⟩ Wm H
   refine wcR ?_
   refine wM ?_
   refine wl_call en13 rfl rfl (read_calls (s := s) (by omega)) ?_
   rintro _ w25 ⟨m2, A2, c2_, f1, f2, rfl, hR2, Hc⟩
   have H26 := H.call Hc
   obtain ⟨⟨hsm, hcm⟩, hF⟩ := rd_facts hs hR2
   refine wM ?_
   refine wV (v_extract rfl rfl) ?_
   refine wV (v_extract rfl rfl) ?_
   refine wl_alloc (cs := [.int .i64 0, .string ⟨#[]⟩, .int .i64 0, .slice none 0 0]) H26 rfl zv24 rfl ?_
   intro b9 w27 hb9 H28
   refine wl_alloc (cs := [.int .i64 0, .int .i64 0]) H28 rfl zv34 rfl ?_
   intro b10 w29 hb10 H30
   refine wl_store (vs := [_, _, _, _]) H30 (by repeat constructor) sz24 rfl rfl rfl rfl rfl (by (repeat constructor)) ?_
   intro w31 H32 hw31
   refine wl_store (vs := [_, _]) H32 (by repeat constructor) sz34 rfl rfl rfl rfl rfl (by (repeat constructor)) ?_
   intro w33 H34 hw33
   refine wl_nil ?_
   refine wc_seq ?_
   refine wcR ?_
   refine wV (v_loadN agg34 rfl rfl (H34.ats (by repeat constructor))) ?_
   refine wV (v_bld ba34 rfl (by repeat constructor)) ?_
   refine wV (v_neqm (a := ⟨f1, f2⟩) (b := ⟨0, 0⟩) eqm34 rfl rfl) ?_
   rw [neqz]
   refine wl_nil ?_
   refine wc_cond rfl (fun c3 => ?_) (fun c3 => ?_)
   rotate_left
   ·have c3p := oF c3
    have hF2 : f1 = 0 ∧ f2 = 0 ∧ txE e0 [] m2 = 0 ∧ txS e0 [] m2 = s := hF.resolve_left (fun h_ => by have h1_ := h_.1; omega)
    obtain ⟨hf1, hf2, hX_, hY_⟩ := hF2
    refine wc_skip ?_
    refine wcR ?_
    refine wV (v_loadN agg24 rfl rfl (H34.ats (by repeat constructor))) ?_
    refine wl_call en11 rfl rfl (ptext_calls (src := e0) (toks := []) (t := m2) (A := none) (kt := 0) (by decide) (by decide) (Rd.nil _ _ _) (H34.oRd (f := fNd) (e := 24) (x := ⟨0, ⟨#[]⟩, 0⟩) (by repeat constructor)) hsm hcm) ?_
    rintro _ w38 ⟨rfl, Hc⟩
    have H39 := H34.call0 Hc
    rw [hX_, hY_]
    refine wM ?_
    refine wV (v_extract rfl rfl) ?_
    refine wV (v_extract rfl rfl) ?_
    refine wA ?_
    refine wA ?_
    refine wl_nil ?_
    refine wcR ?_
    refine wM ?_
    refine wV (v_eql rfl rfl) ?_
    refine wM ?_
    refine wl_guard rfl rfl rfl (fun g82 => ?_) (fun g82 => ?_)
    rotate_left
    ·have g82p := oF g82
     exact absurd g82 (by simp)
    have g82p := oT g82
    refine wM ?_
    refine wO g82 ?_
    refine wM ?_
    refine wO g82 ?_
    refine wV (v_eqls rfl rfl) ?_
    refine wV (v_pick_t rfl g82 rfl) ?_
    refine wA ?_
    refine wl_nil ?_
    refine wc_ret ?_
    first
      | exact ⟨_, res1 rfl rfl, rfl, H39.pm (by repeat (first | exact pm_refl _ | exact Pm.nil _ | constructor | refine pm_skip ?_))⟩
      | exact ⟨_, res1 rfl rfl, congrArg Value.bool (dec_t rfl), H39.pm (by repeat (first | exact pm_refl _ | exact Pm.nil _ | constructor | refine pm_skip ?_))⟩
      | exact ⟨_, res1 rfl rfl, by simp, H39.pm (by repeat (first | exact pm_refl _ | exact Pm.nil _ | constructor | refine pm_skip ?_))⟩
   have c3p := oT c3
   have hF2 := hF.resolve_right (fun h_ => c3p ⟨h_.1, h_.2.1⟩)
   obtain ⟨rfl, hf2, rfl⟩ := hF2
   refine wcR ?_
   refine wV (v_fb (o2 := 0) fa34_0 rfl rfl) ?_
   refine wV (v_load one29 rfl (H34.at (by repeat constructor) rfl)) ?_
   refine wV (v_eql rfl rfl) ?_
   refine wM ?_
   refine wl_guard rfl rfl rfl (fun g58 => ?_) (fun g58 => ?_)
   rotate_left
   ·have g58p := oF g58
    exact absurd g58 (by simp)
   have g58p := oT g58
   refine wV (v_fb (o2 := 1) fa34_1 rfl rfl) ?_
   refine wO g58 ?_
   refine wV (v_load one3 rfl (H34.at (by repeat constructor) rfl)) ?_
   refine wO g58 ?_
   refine wV (v_geq rfl rfl) ?_
   refine wV (v_pick_t rfl g58 rfl) ?_
   refine wM ?_
   refine wl_guard rfl rfl rfl (fun g63 => ?_) (fun g63 => ?_)
   rotate_left
   ·have g63p := oF g63
    exact absurd hf2.1 (by omega)
   have g63p := oT g63
   refine wV (v_fb (o2 := 1) fa34_1 rfl rfl) ?_
   refine wO g63 ?_
   refine wV (v_load one3 rfl (H34.at (by repeat constructor) rfl)) ?_
   refine wO g63 ?_
   refine wM ?_
   refine wO g63 ?_
   refine wV (v_lens Try.underlying9 rfl) ?_
   refine wO g63 ?_
   refine wV (v_leq rfl rfl) ?_
   refine wV (v_pick_t rfl g63 rfl) ?_
   refine wM ?_
   refine wl_guard rfl rfl rfl (fun g70 => ?_) (fun g70 => ?_)
   rotate_left
   ·have g70p := oF g70
    exact absurd hf2.2 (by omega)
   have g70p := oT g70
   refine wV (v_loadN agg24 rfl rfl (H34.ats (by repeat constructor))) ?_
   refine wO g70 ?_
   refine wV (v_bld ba24 rfl (by repeat constructor)) ?_
   refine wO g70 ?_
   refine wl_call en14 rfl rfl (rsame_calls nd0 nd0 _ A2 none c2_ 0 (H34.oRd (f := fNd) (e := 24) (x := ⟨0, ⟨#[]⟩, 0⟩) (by repeat constructor)) (Rd.nil _ _ _) (small_few hsm)) ?_
   rintro _ w36 ⟨rfl, Hc⟩
   have H37 := H34.call0 Hc
   refine wV (v_pick_t rfl g70 rfl) ?_
   refine wA ?_
   refine wl_nil ?_
   refine wc_ret ?_
   first
     | exact ⟨_, res1 rfl rfl, rfl, H37.pm (by repeat (first | exact pm_refl _ | exact Pm.nil _ | constructor | refine pm_skip ?_))⟩
     | exact ⟨_, res1 rfl rfl, congrArg Value.bool (dec_t rfl), H37.pm (by repeat (first | exact pm_refl _ | exact Pm.nil _ | constructor | refine pm_skip ?_))⟩
     | exact ⟨_, res1 rfl rfl, by simp, H37.pm (by repeat (first | exact pm_refl _ | exact Pm.nil _ | constructor | refine pm_skip ?_))⟩
  refine wcR ?_
  refine wM ?_
  refine wV (v_eql rfl rfl) ?_
  refine wM ?_
  refine wl_guard rfl rfl rfl (fun g25 => ?_) (fun g25 => ?_)
  rotate_left
  ·have g25p := oF g25
   refine wF g25 ?_
   refine wF g25 ?_
   refine wV (v_pick_f rfl g25 rfl) ?_
   refine wl_nil ?_
   refine wc_cond_f rfl ?_
   refine wc_skip ?_
   exact ⟨(), (sc rfl (sn _)), H6.pm (by repeat (first | exact pm_refl _ | exact Pm.nil _ | constructor | refine pm_skip ?_))⟩
  have g25p := oT g25
  obtain ⟨hrow, hnam, hlon⟩ := txE_zero g25p
  refine wV (v_fb (o2 := 0) fa27_0 rfl rfl) ?_
  refine wO g25 ?_
  refine wV (v_loadN (cs := [_, _, _, _]) agg24 rfl rfl (H6.atsN (k := 4) (by repeat constructor) rfl)) ?_
  refine wO g25 ?_
  refine wl_call en12 rfl rfl (plain_calls t _ B k (hr.below H6.old) hf) ?_
  rintro _ w7 ⟨rfl, Hc⟩
  have H8 := H6.call0 Hc
  refine wV (v_pick_t rfl g25 rfl) ?_
  refine wl_nil ?_
  refine wc_cond rfl (fun c1 => ?_) (fun c1 => ?_)
  rotate_left
  ·refine wc_skip ?_
   exact ⟨(), (sc rfl (sn _)), H8.pm (by repeat (first | exact pm_refl _ | exact Pm.nil _ | constructor | refine pm_skip ?_))⟩
  have hpl : t.All plnP := of_dec c1
  refine wcR ?_
  refine wM ?_
  refine wl_call en13 rfl rfl (read_calls (s := txS src toks t) (by rw [(txE_ok hrow hnam hlon).2]; have h_ := shw_len (src := src) (toks := toks) t hnam; show (shw src toks t).length ≤ _; omega)) ?_
  rintro _ w9 ⟨m1, A1, c1_, f1, f2, rfl, hR1, Hc⟩
  have H10 := H8.call Hc
  obtain ⟨rfl, rfl, rfl⟩ := rd_back hrow hnam hlon hpl (by rw [← (txE_ok hrow hnam hlon).2]; exact hR1)
  refine wM ?_
  refine wV (v_extract rfl rfl) ?_
  refine wV (v_extract rfl rfl) ?_
  refine wl_alloc (cs := [.int .i64 0, .string ⟨#[]⟩, .int .i64 0, .slice none 0 0]) H10 rfl zv24 rfl ?_
  intro b7 w11 hb7 H12
  refine wl_alloc (cs := [.int .i64 0, .int .i64 0]) H12 rfl zv34 rfl ?_
  intro b8 w13 hb8 H14
  refine wl_store (vs := [_, _, _, _]) H14 (by repeat constructor) sz24 rfl rfl rfl rfl rfl (by (repeat constructor)) ?_
  intro w15 H16 hw15
  refine wl_store (vs := [_, _]) H16 (by repeat constructor) sz34 rfl rfl rfl rfl rfl (by (repeat constructor)) ?_
  intro w17 H18 hw17
  refine wl_nil ?_
  refine wc_seq ?_
  refine wc_tree [0, 1, 2, 3, 4, 5, 6, 7, 10, 11] (fun W => Holds w [Blk b8 34 [.int .i64 0, .int .i64 0], Blk b7 24 [.int .i64 (wrd src toks t).x.kind, .string (wrd src toks t).x.name, .int .i64 (wrd src toks t).x.tok, .slice A1 (wrd src toks t).kids.length c1_], Blk b2 27 [.int .i64 t.x.kind, .string t.x.name, .int .i64 t.x.tok, .slice B t.kids.length k, .string src, .slice A toks.length kt]] W) mixed ?_
  have Hd := H18.drew
  have HSd : Holds w [Blk b8 34 [.int .i64 0, .int .i64 0], Blk b7 24 [.int .i64 (wrd src toks t).x.kind, .string (wrd src toks t).x.name, .int .i64 (wrd src toks t).x.tok, .slice A1 (wrd src toks t).kids.length c1_], Blk b2 27 [.int .i64 t.x.kind, .string t.x.name, .int .i64 t.x.tok, .slice B t.kids.length k, .string src, .slice A toks.length kt]] _ := Hd.pm (by repeat (first | exact pm_refl _ | exact Pm.nil _ | constructor | refine pm_skip ?_))
  refine wjV (k := 0) rfl HSd (fun W HW => v_loadN agg34 rfl rfl (HW.ats (by repeat constructor))) ?_
  refine wjV (k := 1) rfl HSd (fun W HW => v_bld ba34 rfl (by repeat constructor)) ?_
  refine wjV (k := 2) rfl HSd (fun W HW => v_neqm (a := ⟨0, 0⟩) (b := ⟨0, 0⟩) eqm34 rfl rfl) ?_
  rw [show (!decide ((⟨0, 0⟩ : Mv) = ⟨0, 0⟩)) = false from rfl]
  refine wjV (k := 3) rfl HSd (fun W HW => v_move rfl) ?_
  refine wj_vg (k := 4) rfl (by kernel_rfl) (fun _ _ _ h => h) rfl rfl rfl HSd rfl (fun W HW => v_loadN agg24 rfl rfl (HW.ats (by repeat constructor))) ?_
  refine wj_vg (k := 5) rfl (by kernel_rfl) (fun _ _ _ h => h) rfl rfl rfl HSd rfl (fun W HW => v_loadN agg27 rfl rfl (HW.ats (by repeat constructor))) ?_
  refine wj_vg (k := 6) rfl (by kernel_rfl) (fun _ _ _ h => h) rfl rfl rfl HSd rfl (fun W HW => v_fb (o2 := 0) fa27_0 rfl rfl) ?_
  refine wj_vg (k := 7) rfl (by kernel_rfl) (fun _ _ _ h => h) rfl rfl rfl HSd rfl (fun W HW => v_loadN (cs := [_, _, _, _]) agg24 rfl rfl (HW.atsN (k := 4) (by repeat constructor) rfl)) ?_
  refine wj_t (k := 8) rfl (by kernel_rfl) ?_
  refine wO rfl ?_
  refine wl_call en15 rfl rfl (words_calls (by omega) (by omega) t _ A B B k kt k t (hT.below Hd.old) (hr.below Hd.old) hf hrow) ?_
  rintro _ w19 ⟨Aw, cw, rfl, Hc⟩
  have H20 := Hd.call Hc
  have HS21 : Holds w [Blk b8 34 [.int .i64 0, .int .i64 0], Blk b7 24 [.int .i64 (wrd src toks t).x.kind, .string (wrd src toks t).x.name, .int .i64 (wrd src toks t).x.tok, .slice A1 (wrd src toks t).kids.length c1_], Blk b2 27 [.int .i64 t.x.kind, .string t.x.name, .int .i64 t.x.tok, .slice B t.kids.length k, .string src, .slice A toks.length kt]] _ := H20.pm (by repeat (first | exact pm_refl _ | exact Pm.nil _ | constructor | refine pm_skip ?_))
  refine wl_nil (tn ⟨fun _ => HS21, ?_⟩)
  refine wj_t (k := 9) rfl (by kernel_rfl) ?_
  refine wO rfl ?_
  refine wl_call en14 rfl rfl (rsame_calls (wrd src toks t) (wrd src toks t) _ A1 Aw c1_ cw (H20.oRd (f := fNd) (e := 24) (x := ⟨0, ⟨#[]⟩, 0⟩) (by repeat constructor)) (H20.oRd (f := fNd) (e := 24) (x := ⟨0, ⟨#[]⟩, 0⟩) (by repeat constructor)) (wrd_few _ hf)) ?_
  rintro _ w22 ⟨rfl, Hc⟩
  have H23 := H20.call0 Hc
  have HS24 : Holds w [Blk b8 34 [.int .i64 0, .int .i64 0], Blk b7 24 [.int .i64 (wrd src toks t).x.kind, .string (wrd src toks t).x.name, .int .i64 (wrd src toks t).x.tok, .slice A1 (wrd src toks t).kids.length c1_], Blk b2 27 [.int .i64 t.x.kind, .string t.x.name, .int .i64 t.x.tok, .slice B t.kids.length k, .string src, .slice A toks.length kt]] _ := H23.pm (by repeat (first | exact pm_refl _ | exact Pm.nil _ | constructor | refine pm_skip ?_))
  refine wl_nil (tn ⟨fun _ => HS24, ?_⟩)
  refine wj_vg (k := 10) rfl (by kernel_rfl) (fun _ _ _ h => h) rfl rfl rfl HS24 rfl (fun W HW => v_not rfl) ?_
  refine wjV (k := 11) rfl HS24 (fun W HW => v_pick_f rfl rfl rfl) ?_
  refine wj_done (by kernel_rfl) ?_
  refine wc_cond_n rfl (by rw [(dec_t rfl)] <;> rfl) ?_
  refine wc_skip ?_
  exact ⟨(), (sc rfl (sn _)), H23.pm (by repeat (first | exact pm_refl _ | exact Pm.nil _ | constructor | refine pm_skip ?_))⟩
end Go.Proofs.Ytgdemplcpcacaaa.BBack

/-! What came in, as it reads. -/
namespace Go.Proofs.YtgdemplcpcacaaaFx
open Go Go.RowKit Go.ChangeShapes Go.WideShapes Go.ChangeAt Go.Deep
open Go.Proofs.Ytgdemplcpcacaaa (Rows.uptoBulk Rows.uptoBulkAll Rows.uptoSmall)
theorem bulk_one {H : Type} (d : DataW H) : 1 ≤ Rows.uptoBulk d := by
  cases d with
  | lit l => cases l <;> simp [Rows.uptoBulk]
  | nil => simp [Rows.uptoBulk]
  | ptr d => simp [Rows.uptoBulk]
  | slice elems spare => simp [Rows.uptoBulk]
  | agg parts => simp [Rows.uptoBulk]
  | iface t d => simp [Rows.uptoBulk]
  | map entries => simp [Rows.uptoBulk]
  | held h => simp [Rows.uptoBulk]
theorem bulk_part {H : Type} {d : DataW H} {l : List (DataW H)} (h : d ∈ l) : Rows.uptoBulk d ≤ Rows.uptoBulkAll l := by
  induction l with
  | nil => cases h
  | cons x r ih =>
    simp only [Rows.uptoBulkAll]
    cases List.mem_cons.1 h with
    | inl e => subst e; omega
    | inr e => have := ih e; omega
theorem bulk_len {H : Type} (l : List (DataW H)) : l.length ≤ Rows.uptoBulkAll l := by
  induction l with
  | nil => simp [Rows.uptoBulkAll]
  | cons x r ih => have := bulk_one x; simp only [Rows.uptoBulkAll, List.length_cons]; omega
/-- A kind of elements that a type reads as; B: what is so of an element of such a bulk. -/
structure Rds (P : Program) (t : TypeId) {α : Type} (K : Kn α) (B : α → Nat → Prop) : Prop where
  sz : P.cellsOf t = K.sz
  rd : ∀ {H : Type} {enc : TypeId × Value → H} {w : World} {base : Nat} {spare : Nat → Bool} {held : Bool} {fuel : Nat} {cs : List Value} {x : DataW H × List MemPlace}, DataW.trod enc P w base spare held fuel t cs = some x → ∃ a, K.K w a cs ∧ B a (Rows.uptoBulk x.1)
section
variable {P : Program} {t e : TypeId} {k : IntKind}
theorem rds_int (ht : P.underlying t = some (.int k)) (hc : P.cellsOf t = 1) : Rds P t (kInt k) (fun a n => (Lit.int k a).wf = true ∧ 1 ≤ n) := ⟨hc, fun h => by
  obtain ⟨n, rfl, rfl, hw⟩ := DataW.trod_int ht h
  exact ⟨n, rfl, hw, bulk_one _⟩⟩
theorem rds_str (ht : P.underlying t = some .string) (hc : P.cellsOf t = 1) : Rds P t kStr (fun a n => a.size + 1 ≤ n) := ⟨hc, fun h => by
  obtain ⟨s, rfl, rfl, hw⟩ := DataW.trod_string ht h
  refine ⟨s, rfl, ?_⟩
  simp only [Rows.uptoBulk, Array.length_toList]
  exact Nat.le_refl _⟩
theorem i64_wf {a : Int} (h : (Lit.int .i64 a).wf = true) : I64 a := by
  have e1 : (if IntKind.i64.signed = true then -(2 ^ (IntKind.i64.bits - 1) : Int) else 0) = -9223372036854775808 := rfl
  have h1 : -9223372036854775808 ≤ a ∧ a ≤ 9223372036854775807 := by simpa [Lit.wf, IntKind.min, e1] using h
  exact h1
theorem two_len {cs : List Value} (h : cs.length = 2) : ∃ a b, cs = [a, b] := by
  match cs, h with
  | [a, b], _ => exact ⟨a, b, rfl⟩
theorem rds_mv {f0 f1 : Field} (ht : P.underlying t = some (.struct #[f0, f1])) (he : P.underlying e = some (.int .i64)) (hc : P.cellsOf t = 2) (hce : P.cellsOf e = 1) (h0 : (f0.type, f0.offset) = (e, 0)) (h1 : (f1.type, f1.offset) = (e, 1)) : Rds P t fMv.kn (fun a n => (I64 a.d ∧ I64 a.n) ∧ 1 ≤ n) := ⟨hc, fun {H enc w base spare held fuel cs x} h => by
  simp only [Prod.mk.injEq] at h0 h1
  obtain ⟨y0, y1, n, rfl, hl, e0, e1⟩ := trod_struct2 ht h
  rw [h0.1, h0.2, hce] at e0
  rw [h1.1, h1.2, hce] at e1
  obtain ⟨a, ha, _, wa⟩ := DataW.trod_int he e0
  obtain ⟨b, hb, _, wb⟩ := DataW.trod_int he e1
  rw [hc] at hl
  obtain ⟨c0, c1, rfl⟩ := two_len hl
  · simp at ha hb
    subst ha hb
    exact ⟨⟨a, b⟩, rfl, ⟨i64_wf wa, i64_wf wb⟩, bulk_one _⟩⟩
theorem rds_sl {α : Type} {K : Kn α} {B : α → Nat → Prop} (ht : P.underlying t = some (.slice e)) (hc : P.cellsOf t = 1) (he : Rds P e K B) : Rds P t K.sl (fun xs n => xs.length + 1 ≤ n ∧ ∀ x ∈ xs, ∃ m, m ≤ n ∧ B x m) := ⟨hc, fun {H enc w base spare held fuel cs x} h => by
  rcases open_slice ht h with ⟨rfl, rfl⟩ | ⟨a, len, cap, m, n, D, Pl, rfl, _, hl, hm, hmm, rfl, hx⟩
  · exact ⟨[], ⟨none, 0, rfl, Nat.le_refl _, Rd.nil _ _ _⟩, by simp [Rows.uptoBulk], fun x hx => by simp at hx⟩
  · have hlm : len ≤ m := by rw [hmm]; split <;> omega
    have hex : ∀ i, i < len → ∃ a' : α, (∃ cs', w.cells? base (a.add (i * P.cellsOf e)) (P.cellsOf e) = some cs' ∧ K.K w a' cs') ∧ B a' (Rows.uptoBulk (D i)) := fun i hi => by
      obtain ⟨cs', h1, h2⟩ := hx i (by omega)
      obtain ⟨a', h3, h4⟩ := he.rd h2
      exact ⟨a', ⟨cs', h1, h3⟩, h4⟩
    refine ⟨List.ofFn fun i : Fin len => Classical.choose (hex i.1 i.2), ⟨some a, cap, by rw [List.length_ofFn], by rw [List.length_ofFn]; exact hl, fun _ => rfl, fun j y hy => ?_⟩, ?_, fun y hy => ?_⟩
    · rw [List.getElem?_ofFn] at hy
      split at hy
      · rename_i hj
        simp only [Option.some.injEq] at hy
        subst hy
        obtain ⟨⟨cs', h1, h2⟩, _⟩ := Classical.choose_spec (hex j hj)
        refine ⟨cs', h2, fun i u hu => ?_⟩
        obtain ⟨_, h5, h6⟩ := World.cells?_some h1
        have hi : i < P.cellsOf e := by rw [← h5]; exact (List.getElem?_eq_some_iff.1 hu).1
        have := h6 i hi
        rw [hu, add_add, he.sz] at this
        exact this
      · simp at hy
    · rw [List.length_ofFn]
      have h1 := bulk_len ((List.range len).map D)
      rw [List.length_map, List.length_range] at h1
      simp only [Rows.uptoBulk]
      omega
    · obtain ⟨i, hi⟩ := (List.mem_ofFn ..).1 hy
      subst hi
      refine ⟨Rows.uptoBulk (D i.1), ?_, (Classical.choose_spec (hex i.1 i.2)).2⟩
      have h1 := bulk_part (d := D i.1) (l := (List.range len).map D) (List.mem_map.2 ⟨i.1, List.mem_range.2 i.2, rfl⟩)
      simp only [Rows.uptoBulk]
      omega⟩
/-- A table. -/
def kTb : Kn Tb where
  sz := 2
  K := fun w t cs => ∃ A B ca cb, cs = [.slice A t.mv.length ca, .slice B t.go.length cb] ∧ t.rd w A B
  len := fun ⟨_, _, _, _, h, _⟩ => by rw [h]; rfl
  one := fun ⟨_, _, _, _, h, _⟩ u hu => by
    rw [h] at hu
    simp only [List.mem_cons, List.not_mem_nil, or_false] at hu
    rcases hu with rfl | rfl <;> rfl
  st := fun hb ⟨A, B, ca, cb, h, hr⟩ => ⟨A, B, ca, cb, h, hr.below hb⟩
theorem rds_tb {f0 f1 : Field} {t0 t1 : TypeId} (ht : P.underlying t = some (.struct #[f0, f1])) (hc : P.cellsOf t = 2) (h0 : (f0.type, f0.offset) = (t0, 0)) (h1 : (f1.type, f1.offset) = (t1, 1))
    {B0 B1 : _} (r0 : Rds P t0 fMv.kn.sl.sl B0) (r1 : Rds P t1 (kInt .i64).sl.sl B1) : Rds P t kTb (fun a n => ∃ n0 n1, n0 + n1 ≤ n ∧ B0 a.mv n0 ∧ B1 a.go n1) := ⟨hc, fun {H enc w base spare held fuel cs x} h => by
  simp only [Prod.mk.injEq] at h0 h1
  obtain ⟨y0, y1, n, rfl, hl, e0, e1⟩ := trod_struct2 ht h
  rw [h0.1, h0.2] at e0
  rw [h1.1, h1.2] at e1
  have s0 : P.cellsOf t0 = 1 := r0.sz
  have s1 : P.cellsOf t1 = 1 := r1.sz
  rw [s0] at e0
  rw [s1] at e1
  obtain ⟨mv, ⟨A, ca, ha, _, hra⟩, b0⟩ := r0.rd e0
  obtain ⟨go, ⟨B, cb, hb, _, hrb⟩, b1⟩ := r1.rd e1
  rw [hc] at hl
  obtain ⟨c0, c1, rfl⟩ := two_len hl
  · simp at ha hb
    subst ha hb
    exact ⟨⟨mv, go⟩, ⟨A, B, ca, cb, rfl, hra, hrb⟩, _, _, by simp only [Rows.uptoBulk, Rows.uptoBulkAll]; omega, b0, b1⟩⟩
def BRow (K : List Mv → Nat → Prop) : Prop := True
abbrev BMv (xs : List Mv) (n : Nat) : Prop := xs.length + 1 ≤ n ∧ ∀ x ∈ xs, ∃ m, m ≤ n ∧ (I64 x.d ∧ I64 x.n) ∧ 1 ≤ m
abbrev BInt (xs : List Int) (n : Nat) : Prop := xs.length + 1 ≤ n ∧ ∀ x ∈ xs, ∃ m, m ≤ n ∧ (Lit.int .i64 x).wf = true ∧ 1 ≤ m
theorem tb_ok {a : Tb} {n0 n1 : Nat} (h0 : a.mv.length + 1 ≤ n0 ∧ ∀ x ∈ a.mv, ∃ m, m ≤ n0 ∧ BMv x m) (h1 : a.go.length + 1 ≤ n1 ∧ ∀ x ∈ a.go, ∃ m, m ≤ n1 ∧ BInt x m) (hn : n0 + n1 ≤ 1048576) : a.ok :=
  ⟨by omega, by omega, fun r hr => by
    obtain ⟨m, hm, h2, h3⟩ := h0.2 r hr
    exact ⟨by omega, fun x hx => by obtain ⟨_, _, h4, _⟩ := h3 x hx; exact h4⟩, fun r hr => by
    obtain ⟨m, hm, h2, h3⟩ := h1.2 r hr
    exact ⟨by omega, fun x hx => by obtain ⟨_, _, h4, _⟩ := h3 x hx; exact i64_wf h4⟩⟩
end
end Go.Proofs.YtgdemplcpcacaaaFx

/-! A table's bytes: plain. -/
namespace Go.Proofs.YtgdemplcpcacaaaFx
open Go Go.RowKit
def okMv (m : Mv) : Prop := 0 ≤ m.d ∧ m.d ≤ 2147483647 ∧ 0 ≤ m.n ∧ m.n ≤ 2147483647
def okGo (x : Int) : Prop := -1 ≤ x ∧ x < 2147483647
def mvB (m : Mv) : List Int := vint m.d.toNat ++ vint m.n.toNat
def goB (x : Int) : List Int := vint (x + 1).toNat
def mvsB (ms : List Mv) : List Int := ms.flatMap mvB
def gosB (xs : List Int) : List Int := xs.flatMap goB
def rowB (t : Tb) (s : Nat) : List Int := mvsB (t.mv.getD s []) ++ gosB (t.go.getD s [])
def rowsB (t : Tb) (i : Nat) : List Int := (List.range i).flatMap (rowB t)
def headB (t : Tb) : List Int := vint t.mv.length ++ vint (t.mv.getD 0 []).length ++ vint (t.go.getD 0 []).length
def tbB (t : Tb) : List Int := headB t ++ rowsB t t.mv.length
def RowOk2 (t : Tb) (s : Nat) : Prop := (∀ m ∈ t.mv.getD s [], okMv m) ∧ ∀ x ∈ t.go.getD s [], okGo x
def ByOk (t : Tb) : Prop := Rect t ∧ ∀ s, s < t.mv.length → RowOk2 t s
noncomputable def bytesA (t : Tb) : List Int := if dec (ByOk t) then tbB t else []
noncomputable def bytesE (t : Tb) : Int := if dec (ByOk t) then 0 else 170
theorem by_t {t : Tb} (h : ByOk t) : bytesA t = tbB t ∧ bytesE t = 0 := by rw [bytesA, bytesE, dec_t h]; exact ⟨rfl, rfl⟩
theorem by_f {t : Tb} (h : ¬ ByOk t) : bytesA t = [] ∧ bytesE t = 170 := by rw [bytesA, bytesE, dec_f h]; exact ⟨rfl, rfl⟩
/-- A table of bulk at most the bound. -/
structure BSm (t : Tb) : Prop where
  ok : t.ok
  m : t.mv.length ≤ 1048576
  mr : ∀ r ∈ t.mv, r.length ≤ 1048576
  gr : ∀ r ∈ t.go, r.length ≤ 1048576
theorem BSm.ml {t : Tb} (h : BSm t) {i : Nat} (hi : i < t.mv.length) : (t.mv.getD i []).length ≤ 1048576 := h.mr _ (getD_mem hi)
theorem BSm.gl {t : Tb} (h : BSm t) {i : Nat} (hi : i < t.go.length) : (t.go.getD i []).length ≤ 1048576 := h.gr _ (getD_mem hi)
theorem vint5 {n : Nat} (h : n ≤ 2147483647) : (vint n).length ≤ 5 := vint_len 5 n (by simp only [Nat.reducePow]; omega) (by decide)
theorem mvsB_len {ms : List Mv} (h : ∀ m ∈ ms, okMv m) : (mvsB ms).length ≤ 10 * ms.length := by
  induction ms with
  | nil => simp [mvsB]
  | cons m r ih =>
    have h1 := ih fun x hx => h x (List.mem_cons_of_mem _ hx)
    obtain ⟨h2, h3, h4, h5⟩ := h m (List.mem_cons_self ..)
    have v1 := vint5 (n := m.d.toNat) (by omega)
    have v2 := vint5 (n := m.n.toNat) (by omega)
    show (mvB m ++ mvsB r).length ≤ _
    rw [List.length_append, mvB, List.length_append, List.length_cons]
    omega
theorem gosB_len {xs : List Int} (h : ∀ x ∈ xs, okGo x) : (gosB xs).length ≤ 5 * xs.length := by
  induction xs with
  | nil => simp [gosB]
  | cons m r ih =>
    have h1 := ih fun x hx => h x (List.mem_cons_of_mem _ hx)
    obtain ⟨h2, h3⟩ := h m (List.mem_cons_self ..)
    have v1 := vint5 (n := (m + 1).toNat) (by omega)
    show (goB m ++ gosB r).length ≤ _
    rw [List.length_append, goB, List.length_cons]
    omega
theorem rowsB_succ (t : Tb) (i : Nat) : rowsB t (i + 1) = rowsB t i ++ mvsB (t.mv.getD i []) ++ gosB (t.go.getD i []) := by
  rw [rowsB, List.range_succ, List.flatMap_append, List.append_assoc]
  simp [rowsB, rowB]
theorem rowsB_len {t : Tb} (hs : BSm t) (hg : t.go.length = t.mv.length) : ∀ i, i ≤ t.mv.length → (∀ s, s < i → RowOk2 t s) → (rowsB t i).length ≤ i * 15728640
  | 0, _, _ => by simp [rowsB]
  | i + 1, hi, h => by
    have h1 := rowsB_len hs hg i (by omega) fun s hs => h s (by omega)
    have h2 := mvsB_len (h i (by omega)).1
    have h3 := gosB_len (h i (by omega)).2
    have h4 := hs.ml (i := i) (by omega)
    have h5 := hs.gl (i := i) (by omega)
    rw [rowsB_succ, List.length_append, List.length_append]
    omega
theorem headB_len {t : Tb} (hs : BSm t) (hg : t.go.length = t.mv.length) (h0 : 0 < t.mv.length) : (headB t).length ≤ 15 := by
  have h1 := vint5 (n := t.mv.length) (by have := hs.m; omega)
  have h2 := vint5 (n := (t.mv.getD 0 []).length) (by have := hs.ml (i := 0) h0; omega)
  have h3 := vint5 (n := (t.go.getD 0 []).length) (by have := hs.gl (i := 0) (by omega); omega)
  rw [headB, List.length_append, List.length_append]
  omega
theorem mvsB_succ {ms : List Mv} {j : Nat} (h : j < ms.length) : mvsB (ms.take (j + 1)) = mvsB (ms.take j) ++ vint (ms.getD j mv0).d.toNat ++ vint (ms.getD j mv0).n.toNat := by
  rw [mvsB, take_succ' mv0 h, List.flatMap_append, List.append_assoc]
  simp [mvsB, mvB]
theorem gosB_succ {xs : List Int} {j : Nat} (h : j < xs.length) : gosB (xs.take (j + 1)) = gosB (xs.take j) ++ vint (xs.getD j 0 + 1).toNat := by
  rw [gosB, take_succ' 0 h, List.flatMap_append]
  simp [gosB, goB]
theorem take_ok {α : Type} {p : α → Prop} {xs : List α} {j : Nat} (z : α) (hj : j < xs.length) (h : ∀ x ∈ xs.take j, p x) (hx : p (xs.getD j z)) : ∀ x ∈ xs.take (j + 1), p x := fun x hxm => by
  rw [take_succ' z hj, List.mem_append, List.mem_singleton] at hxm
  rcases hxm with h1 | rfl
  · exact h x h1
  · exact hx
theorem out0 {t : Tb} (hs : BSm t) (hg : t.go.length = t.mv.length) (h0 : 0 < t.mv.length) {i : Nat} (hi : i ≤ t.mv.length) (h : ∀ s, s < i → RowOk2 t s) : (headB t ++ rowsB t i).length ≤ 20000000000000 := by
  have h1 := headB_len hs hg h0
  have h2 := rowsB_len hs hg i hi h
  have h3 := hs.m
  rw [List.length_append]
  omega
theorem out1 {t : Tb} (hs : BSm t) (hg : t.go.length = t.mv.length) {i j : Nat} (hi : i < t.mv.length) (h : ∀ s, s < i → RowOk2 t s) (hj : ∀ m ∈ (t.mv.getD i []).take j, okMv m) : (headB t ++ rowsB t i ++ mvsB ((t.mv.getD i []).take j)).length ≤ 30000000000000 := by
  have h1 := out0 hs hg (by omega) (Nat.le_of_lt hi) h
  have h2 := mvsB_len hj
  have h3 := hs.ml hi
  rw [List.length_take] at h2
  rw [List.length_append]
  omega
theorem out2 {t : Tb} (hs : BSm t) (hg : t.go.length = t.mv.length) {i j : Nat} (hi : i < t.mv.length) (h : ∀ s, s < i → RowOk2 t s) (hm : ∀ m ∈ t.mv.getD i [], okMv m) (hj : ∀ x ∈ (t.go.getD i []).take j, okGo x) : (headB t ++ rowsB t i ++ mvsB (t.mv.getD i []) ++ gosB ((t.go.getD i []).take j)).length ≤ 40000000000000 := by
  have h1 := out1 (j := (t.mv.getD i []).length) hs hg hi h (by rw [List.take_length]; exact hm)
  have h2 := gosB_len hj
  have h3 := hs.gl (i := i) (by omega)
  rw [List.take_length] at h1
  rw [List.length_take] at h2
  rw [List.length_append]
  omega
end Go.Proofs.YtgdemplcpcacaaaFx

/-! What came in, its rows' lengths together. -/
namespace Go.Proofs.YtgdemplcpcacaaaFx
open Go Go.RowKit Go.ChangeShapes Go.WideShapes Go.ChangeAt Go.Deep
open Go.Proofs.Ytgdemplcpcacaaa (Rows.uptoBulk Rows.uptoBulkAll Rows.uptoSmall)
theorem sum_le : ∀ {l1 l2 : List Nat}, l1.length = l2.length → (∀ j (h1 : j < l1.length) (h2 : j < l2.length), l1[j] ≤ l2[j]) → l1.sum ≤ l2.sum
  | [], [], _, _ => Nat.le_refl _
  | [], _ :: _, h, _ => by simp at h
  | _ :: _, [], h, _ => by simp at h
  | a :: l1, b :: l2, h, hj => by
    rw [List.sum_cons, List.sum_cons]
    have h0 := hj 0 (by simp) (by simp)
    have ih := sum_le (l1 := l1) (l2 := l2) (by simpa using h) fun j h1 h2 => by
      have := hj (j + 1) (by simp; exact h1) (by simp; exact h2)
      simpa using this
    simp only [List.getElem_cons_zero] at h0
    omega
theorem bulk_sum {H : Type} : ∀ l : List (DataW H), Rows.uptoBulkAll l = (l.map Rows.uptoBulk).sum
  | [] => rfl
  | x :: r => by rw [Rows.uptoBulkAll, bulk_sum r, List.map_cons, List.sum_cons]
section
variable {P : Program} {t e : TypeId}
theorem rds_slS {α : Type} {K : Kn α} {B : α → Nat → Prop} (μ : α → Nat) (hμ : ∀ a n, B a n → μ a ≤ n) (ht : P.underlying t = some (.slice e)) (hc : P.cellsOf t = 1) (he : Rds P e K B) : Rds P t K.sl (fun xs n => ((xs.map μ).sum + 1 ≤ n ∧ xs.length + 1 ≤ n) ∧ ∀ x ∈ xs, ∃ m, m ≤ n ∧ B x m) := ⟨hc, fun {H enc w base spare held fuel cs x} h => by
  rcases open_slice ht h with ⟨rfl, rfl⟩ | ⟨a, len, cap, m, n, D, Pl, rfl, _, hl, hm, hmm, rfl, hx⟩
  · exact ⟨[], ⟨none, 0, rfl, Nat.le_refl _, Rd.nil _ _ _⟩, by simp [Rows.uptoBulk], fun x hx => by simp at hx⟩
  · have hlm : len ≤ m := by rw [hmm]; split <;> omega
    have hex : ∀ i, i < len → ∃ a' : α, (∃ cs', w.cells? base (a.add (i * P.cellsOf e)) (P.cellsOf e) = some cs' ∧ K.K w a' cs') ∧ B a' (Rows.uptoBulk (D i)) := fun i hi => by
      obtain ⟨cs', h1, h2⟩ := hx i (by omega)
      obtain ⟨a', h3, h4⟩ := he.rd h2
      exact ⟨a', ⟨cs', h1, h3⟩, h4⟩
    refine ⟨List.ofFn fun i : Fin len => Classical.choose (hex i.1 i.2), ⟨some a, cap, by rw [List.length_ofFn], by rw [List.length_ofFn]; exact hl, fun _ => rfl, fun j y hy => ?_⟩, ⟨?_, ?_⟩, fun y hy => ?_⟩
    · rw [List.getElem?_ofFn] at hy
      split at hy
      · rename_i hj
        simp only [Option.some.injEq] at hy
        subst hy
        obtain ⟨⟨cs', h1, h2⟩, _⟩ := Classical.choose_spec (hex j hj)
        refine ⟨cs', h2, fun i u hu => ?_⟩
        obtain ⟨_, h5, h6⟩ := World.cells?_some h1
        have hi : i < P.cellsOf e := by rw [← h5]; exact (List.getElem?_eq_some_iff.1 hu).1
        have := h6 i hi
        rw [hu, add_add, he.sz] at this
        exact this
      · simp at hy
    · have h1 : ((List.ofFn fun i : Fin len => Classical.choose (hex i.1 i.2)).map μ).sum ≤ (((List.range len).map D).map Rows.uptoBulk).sum := sum_le (by simp) fun j h1 h2 => by
        simp only [List.getElem_map, List.getElem_ofFn, List.getElem_range]
        have hj : j < len := by simpa using h1
        exact hμ _ _ (Classical.choose_spec (hex j hj)).2
      rw [← bulk_sum] at h1
      simp only [Rows.uptoBulk]
      omega
    · rw [List.length_ofFn]
      have h1 := bulk_len ((List.range len).map D)
      rw [List.length_map, List.length_range] at h1
      simp only [Rows.uptoBulk]
      omega
    · obtain ⟨i, hi⟩ := (List.mem_ofFn ..).1 hy
      subst hi
      refine ⟨Rows.uptoBulk (D i.1), ?_, (Classical.choose_spec (hex i.1 i.2)).2⟩
      have h1 := bulk_part (d := D i.1) (l := (List.range len).map D) (List.mem_map.2 ⟨i.1, List.mem_range.2 i.2, rfl⟩)
      simp only [Rows.uptoBulk]
      omega⟩
end
/-- So many elements in all rows. -/
def rowsN {α : Type} (xs : List (List α)) : Nat := (xs.map fun r => r.length + 1).sum
theorem rowsN_succ {α : Type} {xs : List (List α)} {i : Nat} (h : i < xs.length) : rowsN (xs.take (i + 1)) = rowsN (xs.take i) + ((xs.getD i []).length + 1) := by
  rw [rowsN, take_succ' [] h, List.map_append, List.sum_append]
  simp [rowsN]
theorem rowsB_len2 {t : Tb} (hg : t.go.length = t.mv.length) : ∀ i, i ≤ t.mv.length → (∀ s, s < i → RowOk2 t s) → (rowsB t i).length ≤ 10 * rowsN (t.mv.take i) + 5 * rowsN (t.go.take i)
  | 0, _, _ => by simp [rowsB]
  | i + 1, hi, h => by
    have h1 := rowsB_len2 hg i (by omega) fun s hs => h s (by omega)
    have h2 := mvsB_len (h i (by omega)).1
    have h3 := gosB_len (h i (by omega)).2
    rw [rowsB_succ, List.length_append, List.length_append, rowsN_succ (by omega), rowsN_succ (by omega)]
    omega
theorem tbB_len {t : Tb} (hb : BSm t) (h : ByOk t) (h1 : rowsN t.mv ≤ 1048576) (h2 : rowsN t.go ≤ 1048576) : (tbB t).length ≤ 549755813888 := by
  obtain ⟨⟨r1, r2, r3, r4⟩, hok⟩ := h
  have h3 := headB_len hb r3 r1
  have h4 := rowsB_len2 r3 t.mv.length (Nat.le_refl _) hok
  rw [List.take_length, show t.go.take t.mv.length = t.go by rw [← r3, List.take_length]] at h4
  rw [tbB, List.length_append]
  omega
end Go.Proofs.YtgdemplcpcacaaaFx

/-! Grammars that came in, as they read. -/
namespace Go.Proofs.YtgdemplcpcacaaaFx
open Go Go.RowKit Go.ChangeShapes Go.WideShapes Go.ChangeAt Go.Deep
open Go.Proofs.Ytgdemplcpcacaaa (Rows.uptoBulk Rows.uptoBulkAll Rows.uptoSmall)
/-- Read where the bulk is at most N. -/
structure RdsN (P : Program) (t : TypeId) {α : Type} (K : Kn α) (B : α → Nat → Prop) (N : Nat) : Prop where
  sz : P.cellsOf t = K.sz
  rd : ∀ {H : Type} {enc : TypeId × Value → H} {w : World} {base : Nat} {spare : Nat → Bool} {held : Bool} {fuel : Nat} {cs : List Value} {x : DataW H × List MemPlace}, DataW.trod enc P w base spare held fuel t cs = some x → Rows.uptoBulk x.1 ≤ N → ∃ a, K.K w a cs ∧ B a (Rows.uptoBulk x.1)
section
variable {P : Program} {t e : TypeId}
theorem Rds.n {α : Type} {K : Kn α} {B : α → Nat → Prop} (h : Rds P t K B) (N : Nat) : RdsN P t K B N := ⟨h.sz, fun hx _ => h.rd hx⟩
theorem rdsN_sl {α : Type} {K : Kn α} {B : α → Nat → Prop} {N : Nat} (μ : α → Nat) (hμ : ∀ a n, B a n → μ a ≤ n) (ht : P.underlying t = some (.slice e)) (hc : P.cellsOf t = 1) (he : RdsN P e K B N) : RdsN P t K.sl (fun xs n => ((xs.map μ).sum + 1 ≤ n ∧ xs.length + 1 ≤ n) ∧ ∀ x ∈ xs, ∃ m, m ≤ n ∧ B x m) (N + 1) := ⟨hc, fun {H enc w base spare held fuel cs x} h hN => by
  rcases open_slice ht h with ⟨rfl, rfl⟩ | ⟨a, len, cap, m, n, D, Pl, rfl, _, hl, hm, hmm, rfl, hx⟩
  · exact ⟨[], ⟨none, 0, rfl, Nat.le_refl _, Rd.nil _ _ _⟩, by simp [Rows.uptoBulk], fun x hx => by simp at hx⟩
  · have hlm : len ≤ m := by rw [hmm]; split <;> omega
    have hDi : ∀ i, i < len → Rows.uptoBulk (D i) ≤ N := fun i hi => by
      have h1 := bulk_part (d := D i) (l := (List.range len).map D) (List.mem_map.2 ⟨i, List.mem_range.2 hi, rfl⟩)
      simp only [Rows.uptoBulk] at hN
      omega
    have hex : ∀ i, i < len → ∃ a' : α, (∃ cs', w.cells? base (a.add (i * P.cellsOf e)) (P.cellsOf e) = some cs' ∧ K.K w a' cs') ∧ B a' (Rows.uptoBulk (D i)) := fun i hi => by
      obtain ⟨cs', h1, h2⟩ := hx i (by omega)
      obtain ⟨a', h3, h4⟩ := he.rd h2 (hDi i hi)
      exact ⟨a', ⟨cs', h1, h3⟩, h4⟩
    refine ⟨List.ofFn fun i : Fin len => Classical.choose (hex i.1 i.2), ⟨some a, cap, by rw [List.length_ofFn], by rw [List.length_ofFn]; exact hl, fun _ => rfl, fun j y hy => ?_⟩, ⟨?_, ?_⟩, fun y hy => ?_⟩
    · rw [List.getElem?_ofFn] at hy
      split at hy
      · rename_i hj
        simp only [Option.some.injEq] at hy
        subst hy
        obtain ⟨⟨cs', h1, h2⟩, _⟩ := Classical.choose_spec (hex j hj)
        refine ⟨cs', h2, fun i u hu => ?_⟩
        obtain ⟨_, h5, h6⟩ := World.cells?_some h1
        have hi : i < P.cellsOf e := by rw [← h5]; exact (List.getElem?_eq_some_iff.1 hu).1
        have := h6 i hi
        rw [hu, add_add, he.sz] at this
        exact this
      · simp at hy
    · have h1 : ((List.ofFn fun i : Fin len => Classical.choose (hex i.1 i.2)).map μ).sum ≤ (((List.range len).map D).map Rows.uptoBulk).sum := sum_le (by simp) fun j h1 h2 => by
        simp only [List.getElem_map, List.getElem_ofFn, List.getElem_range]
        have hj : j < len := by simpa using h1
        exact hμ _ _ (Classical.choose_spec (hex j hj)).2
      rw [← bulk_sum] at h1
      simp only [Rows.uptoBulk]
      omega
    · rw [List.length_ofFn]
      have h1 := bulk_len ((List.range len).map D)
      rw [List.length_map, List.length_range] at h1
      simp only [Rows.uptoBulk]
      omega
    · obtain ⟨i, hi⟩ := (List.mem_ofFn ..).1 hy
      subst hi
      refine ⟨Rows.uptoBulk (D i.1), ?_, (Classical.choose_spec (hex i.1 i.2)).2⟩
      have h1 := bulk_part (d := D i.1) (l := (List.range len).map D) (List.mem_map.2 ⟨i.1, List.mem_range.2 i.2, rfl⟩)
      simp only [Rows.uptoBulk]
      omega⟩
/-- A struct's fields. -/
theorem fields_of {H : Type} {enc : TypeId × Value → H} {w : World} {base : Nat} {spare : Nat → Bool} {held : Bool} {fuel : Nat} {cs : List Value} {x : DataW H × List MemPlace} {fs : Array Field} (ht : P.underlying t = some (.struct fs)) (h : DataW.trod enc P w base spare held fuel t cs = some x) :
    ∃ (xs : List (DataW H × List MemPlace)) (n : Nat), Rows.uptoBulk x.1 = Rows.uptoBulkAll (xs.map (·.1)) + 1 ∧ cs.length = P.cellsOf t ∧ xs.length = fs.size ∧ ∀ (i : Nat) (f : Field), fs[i]? = some f → ∃ y, xs[i]? = some y ∧ DataW.trod enc P w base spare held n f.type ((cs.drop f.offset).take (P.cellsOf f.type)) = some y := by
  obtain ⟨xs, n, _, rfl, hl, hlen, hf⟩ := DataW.trod_struct ht h
  refine ⟨xs, n, rfl, hl, hlen, fun i f hif => ?_⟩
  have hi : i < xs.length := by rw [hlen]; exact (Array.getElem?_eq_some_iff.1 hif).1
  have := hf i f hif
  rw [List.getElem?_eq_getElem hi] at this
  exact ⟨_, List.getElem?_eq_getElem hi, this⟩
end
theorem cnts_sum {α : Type} : ∀ ts : List (Tr α), Tr.cnts ts = (ts.map Tr.cnt).sum
  | [] => rfl
  | t :: r => by rw [Tr.cnts, cnts_sum r, List.map_cons, List.sum_cons]
theorem four_len {cs : List Value} (h : cs.length = 4) : ∃ a b c d, cs = [a, b, c, d] := by
  match cs, h with
  | [a, b, c, d], _ => exact ⟨a, b, c, d, rfl⟩
theorem five_len {cs : List Value} (h : cs.length = 5) : ∃ a b c d e, cs = [a, b, c, d, e] := by
  match cs, h with
  | [a, b, c, d, e], _ => exact ⟨a, b, c, d, e, rfl⟩
theorem seven_len {cs : List Value} (h : cs.length = 7) : ∃ a b c d e f g, cs = [a, b, c, d, e, f, g] := by
  match cs, h with
  | [a, b, c, d, e, f, g], _ => exact ⟨a, b, c, d, e, f, g, rfl⟩
theorem part_le {H : Type} {xs : List (DataW H × List MemPlace)} {i : Nat} {y : DataW H × List MemPlace} (h : xs[i]? = some y) : Rows.uptoBulk y.1 ≤ Rows.uptoBulkAll (xs.map (·.1)) :=
  bulk_part (List.mem_map.2 ⟨y, List.mem_of_getElem? h, rfl⟩)
section
variable {P : Program} {ti tz ta ts tr tp tk tc tq tg : TypeId}
/-- The types of a grammar's parts: int, string, action, actions, numbers, production, texts, levels, productions, grammar. -/
structure GTypes (P : Program) (ti tz ta ts tr tp : TypeId) : Prop where
  i : Rds P ti (kInt .i64) (fun a n => (Lit.int .i64 a).wf = true ∧ 1 ≤ n)
  z : Rds P tz kStr (fun a n => a.size + 1 ≤ n)
  a : ∃ f0 f1 f2 f3 : Field, P.underlying ta = some (.struct #[f0, f1, f2, f3]) ∧ (f0.type, f0.offset) = (ti, 0) ∧ (f1.type, f1.offset) = (ti, 1) ∧ (f2.type, f2.offset) = (tz, 2) ∧ (f3.type, f3.offset) = (ts, 3)
  ca : P.cellsOf ta = 4
  s : P.underlying ts = some (.slice ta)
  cs : P.cellsOf ts = 1
  r : Rds P tr (kInt .i64).sl (fun xs n => xs.length + 1 ≤ n ∧ ∀ x ∈ xs, ∃ m, m ≤ n ∧ (Lit.int .i64 x).wf = true ∧ 1 ≤ m)
  p : ∃ f0 f1 f2 f3 : Field, P.underlying tp = some (.struct #[f0, f1, f2, f3]) ∧ (f0.type, f0.offset) = (ti, 0) ∧ (f1.type, f1.offset) = (tr, 1) ∧ (f2.type, f2.offset) = (ti, 2) ∧ (f3.type, f3.offset) = (ta, 3)
  cp : P.cellsOf tp = 7
theorem rdsN_tr (T : GTypes P ti tz ta ts tr tp) : ∀ N, RdsN P ta (kTr fAc) (fun a n => a.cnt ≤ n) N := fun N => by
  induction N using Nat.strongRecOn with
  | ind N ih =>
    refine ⟨T.ca, fun {H enc w base spare held fuel cs x} h hN => ?_⟩
    obtain ⟨f0, f1, f2, f3, hu, h0, h1, h2, h3⟩ := T.a
    simp only [Prod.mk.injEq] at h0 h1 h2 h3
    obtain ⟨xs, n, hb, hl, hlen, hf⟩ := fields_of hu h
    rw [T.ca] at hl
    obtain ⟨c0, c1, c2, c3, rfl⟩ := four_len hl
    obtain ⟨y0, i0, e0⟩ := hf 0 f0 rfl
    obtain ⟨y1, i1, e1⟩ := hf 1 f1 rfl
    obtain ⟨y2, i2, e2⟩ := hf 2 f2 rfl
    obtain ⟨y3, i3, e3⟩ := hf 3 f3 rfl
    have s1 : P.cellsOf ti = 1 := T.i.sz
    have s2 : P.cellsOf tz = 1 := T.z.sz
    rw [h0.1, h0.2, s1] at e0
    rw [h1.1, h1.2, s1] at e1
    rw [h2.1, h2.2, s2] at e2
    rw [h3.1, h3.2, T.cs] at e3
    obtain ⟨a0, k0, _⟩ := T.i.rd e0
    obtain ⟨a1, k1, _⟩ := T.i.rd e1
    obtain ⟨a2, k2, _⟩ := T.z.rd e2
    have p3 := part_le i3
    have q3 := bulk_one y3.1
    obtain ⟨M, hM⟩ : ∃ M, Rows.uptoBulk y3.1 = M + 1 := ⟨Rows.uptoBulk y3.1 - 1, by omega⟩
    obtain ⟨kids, ⟨A, c, hc, hle, hr⟩, ⟨hsum, _⟩, _⟩ := (rdsN_sl Tr.cnt (fun a n h => h) T.s T.cs (ih M (by omega))).rd e3 (by omega)
    have g0 : [c0] = [Value.int .i64 a0] := k0
    have g1 : [c1] = [Value.int .i64 a1] := k1
    have g2 : [c2] = [Value.string a2] := k2
    have g3 : [c3] = [Value.slice A kids.length c] := hc
    simp only [List.cons.injEq, and_true] at g0 g1 g2 g3
    subst g0 g1 g2 g3
    refine ⟨.mk ⟨a0, a1, a2⟩ kids, Tr.K.mk (f := fAc) (x := ⟨a0, a1, a2⟩) hle hr, ?_⟩
    rw [Tr.cnt, cnts_sum]
    omega
theorem rdsN_pr (T : GTypes P ti tz ta ts tr tp) (N : Nat) : RdsN P tp kPr (fun p n => p.right.length ≤ n ∧ p.act.cnt ≤ n) N := ⟨T.cp, fun {H enc w base spare held fuel cs x} h hN => by
  obtain ⟨f0, f1, f2, f3, hu, h0, h1, h2, h3⟩ := T.p
  simp only [Prod.mk.injEq] at h0 h1 h2 h3
  obtain ⟨xs, n, hb, hl, hlen, hf⟩ := fields_of hu h
  rw [T.cp] at hl
  obtain ⟨c0, c1, c2, c3, c4, c5, c6, rfl⟩ := seven_len hl
  obtain ⟨y0, i0, e0⟩ := hf 0 f0 rfl
  obtain ⟨y1, i1, e1⟩ := hf 1 f1 rfl
  obtain ⟨y2, i2, e2⟩ := hf 2 f2 rfl
  obtain ⟨y3, i3, e3⟩ := hf 3 f3 rfl
  have s1 : P.cellsOf ti = 1 := T.i.sz
  have s2 : P.cellsOf tr = 1 := T.r.sz
  rw [h0.1, h0.2, s1] at e0
  rw [h1.1, h1.2, s2] at e1
  rw [h2.1, h2.2, s1] at e2
  rw [h3.1, h3.2, T.ca] at e3
  have p1 := part_le i1
  have p3 := part_le i3
  obtain ⟨a0, k0, _⟩ := T.i.rd e0
  obtain ⟨a1, ⟨A, c, hc, hle, hr⟩, b1, _⟩ := T.r.rd e1
  obtain ⟨a2, k2, _⟩ := T.i.rd e2
  obtain ⟨a3, k3, b3⟩ := (rdsN_tr T (Rows.uptoBulk y3.1)).rd e3 (Nat.le_refl _)
  obtain ⟨B, k, hB, hBl, hBr⟩ := Tr.K.open k3
  have g0 : [c0] = [Value.int .i64 a0] := k0
  have g1 : [c1] = [Value.slice A a1.length c] := hc
  have g2 : [c2] = [Value.int .i64 a2] := k2
  have g3 : [c3, c4, c5, c6] = [Value.int .i64 a3.x.kind, .int .i64 a3.x.at_, .string a3.x.name, .slice B a3.kids.length k] := hB
  simp only [List.cons.injEq, and_true] at g0 g1 g2 g3
  obtain ⟨r1, r2, r3, r4⟩ := g3
  subst g0 g1 g2 r1 r2 r3 r4
  exact ⟨⟨a0, a1, a2, a3⟩, ⟨A, c, B, k, rfl, ⟨hle, hBl⟩, hr, hBr⟩, by dsimp only; omega, by dsimp only; omega⟩⟩
/-- A grammar: its row of productions, its texts, its levels. -/
structure GTypes2 (P : Program) (ti tp tk tc tq tg : TypeId) : Prop where
  k : Rds P tk kStr.sl (fun xs n => xs.length + 1 ≤ n ∧ ∀ x ∈ xs, ∃ m, m ≤ n ∧ x.size + 1 ≤ m)
  c : Rds P tc fMv.kn.sl (fun xs n => xs.length + 1 ≤ n ∧ ∀ x ∈ xs, ∃ m, m ≤ n ∧ (I64 x.d ∧ I64 x.n) ∧ 1 ≤ m)
  q : P.underlying tq = some (.slice tp)
  cq : P.cellsOf tq = 1
  g : ∃ f0 f1 f2 f3 f4 : Field, P.underlying tg = some (.struct #[f0, f1, f2, f3, f4]) ∧ (f0.type, f0.offset) = (tk, 0) ∧ (f1.type, f1.offset) = (tc, 1) ∧ (f2.type, f2.offset) = (tk, 2) ∧ (f3.type, f3.offset) = (tq, 3) ∧ (f4.type, f4.offset) = (ti, 4)
  cg : P.cellsOf tg = 5
theorem rd_pl (T : GTypes P ti tz ta ts tr tp) (T2 : GTypes2 P ti tp tk tc tq tg) {H : Type} {enc : TypeId × Value → H} {w : World} {base : Nat} {spare : Nat → Bool} {held : Bool} {fuel : Nat} {cs : List Value} {x : DataW H × List MemPlace} (h : DataW.trod enc P w base spare held fuel tg cs = some x) (hN : Rows.uptoBulk x.1 ≤ 1048576) :
    ∃ (g : Pl) (a : PlA), cs = g.cs a ∧ g.rd w a ∧ g.ok ∧ (g.kinds.length ≤ a.ck ∧ g.precs.length ≤ a.cp ∧ g.rules.length ≤ a.cr ∧ g.prods.length ≤ a.cq) ∧ I64 g.start ∧ (g.prods.length + 1 ≤ Rows.uptoBulk x.1) := by
  obtain ⟨f0, f1, f2, f3, f4, hu, h0, h1, h2, h3, h4⟩ := T2.g
  simp only [Prod.mk.injEq] at h0 h1 h2 h3 h4
  obtain ⟨xs, n, hb, hl, hlen, hf⟩ := fields_of hu h
  rw [T2.cg] at hl
  obtain ⟨c0, c1, c2, c3, c4, rfl⟩ := five_len hl
  obtain ⟨y0, i0, e0⟩ := hf 0 f0 rfl
  obtain ⟨y1, i1, e1⟩ := hf 1 f1 rfl
  obtain ⟨y2, i2, e2⟩ := hf 2 f2 rfl
  obtain ⟨y3, i3, e3⟩ := hf 3 f3 rfl
  obtain ⟨y4, i4, e4⟩ := hf 4 f4 rfl
  have s1 : P.cellsOf tk = 1 := T2.k.sz
  have s2 : P.cellsOf tc = 1 := T2.c.sz
  have s3 : P.cellsOf ti = 1 := T.i.sz
  rw [h0.1, h0.2, s1] at e0
  rw [h1.1, h1.2, s2] at e1
  rw [h2.1, h2.2, s1] at e2
  rw [h3.1, h3.2, T2.cq] at e3
  rw [h4.1, h4.2, s3] at e4
  have p0 := part_le i0
  have p1 := part_le i1
  have p2 := part_le i2
  have p3 := part_le i3
  have q3 := bulk_one y3.1
  obtain ⟨M, hM⟩ : ∃ M, Rows.uptoBulk y3.1 = M + 1 := ⟨Rows.uptoBulk y3.1 - 1, by omega⟩
  obtain ⟨a0, ⟨A0, z0, k0, l0, r0⟩, b0, d0⟩ := T2.k.rd e0
  obtain ⟨a1, ⟨A1, z1, k1, l1, r1⟩, b1, d1⟩ := T2.c.rd e1
  obtain ⟨a2, ⟨A2, z2, k2, l2, r2⟩, b2, d2⟩ := T2.k.rd e2
  obtain ⟨a3, ⟨A3, z3, k3, l3, r3⟩, ⟨_, b3⟩, d3⟩ := (rdsN_sl (fun p : Pr => 0) (fun a n h => Nat.zero_le _) T2.q T2.cq (rdsN_pr T M)).rd e3 (by omega)
  obtain ⟨a4, k4, b4, _⟩ := T.i.rd e4
  have g0 : [c0] = [Value.slice A0 a0.length z0] := k0
  have g1 : [c1] = [Value.slice A1 a1.length z1] := k1
  have g2 : [c2] = [Value.slice A2 a2.length z2] := k2
  have g3 : [c3] = [Value.slice A3 a3.length z3] := k3
  have g4 : [c4] = [Value.int .i64 a4] := k4
  simp only [List.cons.injEq, and_true] at g0 g1 g2 g3 g4
  subst g0 g1 g2 g3 g4
  refine ⟨⟨a0, a1, a2, a3, a4⟩, ⟨A0, z0, A1, z1, A2, z2, A3, z3⟩, rfl, ⟨r0, r1, r2, r3⟩, ⟨?_, ?_, ?_, ?_, ?_, ?_, ?_, ?_⟩, ⟨l0, l1, l2, l3⟩, i64_wf b4, by dsimp only; omega⟩
  · dsimp only; omega
  · intro s hs
    obtain ⟨m, m1, m2⟩ := d0 s hs
    omega
  · dsimp only; omega
  · dsimp only; omega
  · intro s hs
    obtain ⟨m, m1, m2⟩ := d2 s hs
    omega
  · dsimp only; omega
  · intro p hp
    obtain ⟨m, m1, m2, m3⟩ := d3 p hp
    omega
  · intro p hp
    obtain ⟨m, m1, m2, m3⟩ := d3 p hp
    omega
end
end Go.Proofs.YtgdemplcpcacaaaFx

/-! Derivations, nodes and data that came in, as they read. -/
namespace Go.Proofs.YtgdemplcpcacaaaFx
open Go Go.RowKit Go.ChangeShapes Go.WideShapes Go.ChangeAt Go.Deep
open Go.Proofs.Ytgdemplcpcacaaa (Rows.uptoBulk Rows.uptoBulkAll Rows.uptoSmall)
theorem three_len {cs : List Value} (h : cs.length = 3) : ∃ a b c, cs = [a, b, c] := by
  match cs, h with
  | [a, b, c], _ => exact ⟨a, b, c, rfl⟩
section
variable {P : Program} {ti tz ta ts td tc tcs tds tzs tg tw tr tt : TypeId} {N : Nat}
abbrev RInt (P : Program) (ti : TypeId) : Prop := Rds P ti (kInt .i64) (fun a n => (Lit.int .i64 a).wf = true ∧ 1 ≤ n)
abbrev RStr (P : Program) (tz : TypeId) : Prop := Rds P tz kStr (fun a n => a.size + 1 ≤ n)
/-- Derivations. -/
structure DvTypes (P : Program) (ti ta ts : TypeId) : Prop where
  i : RInt P ti
  a : ∃ f0 f1 f2 : Field, P.underlying ta = some (.struct #[f0, f1, f2]) ∧ (f0.type, f0.offset) = (ti, 0) ∧ (f1.type, f1.offset) = (ti, 1) ∧ (f2.type, f2.offset) = (ts, 2)
  ca : P.cellsOf ta = 3
  s : P.underlying ts = some (.slice ta)
  cs : P.cellsOf ts = 1
theorem rdsN_dv (T : DvTypes P ti ta ts) : ∀ N, RdsN P ta (kTr fDv) (fun a n => a.cnt ≤ n) N := fun N => by
  induction N using Nat.strongRecOn with
  | ind N ih =>
    refine ⟨T.ca, fun {H enc w base spare held fuel cs x} h hN => ?_⟩
    obtain ⟨f0, f1, f2, hu, h0, h1, h2⟩ := T.a
    simp only [Prod.mk.injEq] at h0 h1 h2
    obtain ⟨xs, n, hb, hl, hlen, hf⟩ := fields_of hu h
    rw [T.ca] at hl
    obtain ⟨c0, c1, c2, rfl⟩ := three_len hl
    obtain ⟨y0, i0, e0⟩ := hf 0 f0 rfl
    obtain ⟨y1, i1, e1⟩ := hf 1 f1 rfl
    obtain ⟨y2, i2, e2⟩ := hf 2 f2 rfl
    have s1 : P.cellsOf ti = 1 := T.i.sz
    rw [h0.1, h0.2, s1] at e0
    rw [h1.1, h1.2, s1] at e1
    rw [h2.1, h2.2, T.cs] at e2
    obtain ⟨a0, k0, _⟩ := T.i.rd e0
    obtain ⟨a1, k1, _⟩ := T.i.rd e1
    have p3 := part_le i2
    have q3 := bulk_one y2.1
    obtain ⟨M, hM⟩ : ∃ M, Rows.uptoBulk y2.1 = M + 1 := ⟨Rows.uptoBulk y2.1 - 1, by omega⟩
    obtain ⟨kids, ⟨A, c, hc, hle, hr⟩, ⟨hsum, _⟩, _⟩ := (rdsN_sl Tr.cnt (fun a n h => h) T.s T.cs (ih M (by omega))).rd e2 (by omega)
    have g0 : [c0] = [Value.int .i64 a0] := k0
    have g1 : [c1] = [Value.int .i64 a1] := k1
    have g2 : [c2] = [Value.slice A kids.length c] := hc
    simp only [List.cons.injEq, and_true] at g0 g1 g2
    subst g0 g1 g2
    refine ⟨.mk ⟨a0, a1⟩ kids, Tr.K.mk (f := fDv) (x := ⟨a0, a1⟩) hle hr, ?_⟩
    rw [Tr.cnt, cnts_sum]
    omega
/-- Nodes. -/
structure NdTypes (P : Program) (ti tz ta ts : TypeId) : Prop where
  i : RInt P ti
  z : RStr P tz
  a : ∃ f0 f1 f2 f3 : Field, P.underlying ta = some (.struct #[f0, f1, f2, f3]) ∧ (f0.type, f0.offset) = (ti, 0) ∧ (f1.type, f1.offset) = (tz, 1) ∧ (f2.type, f2.offset) = (ti, 2) ∧ (f3.type, f3.offset) = (ts, 3)
  ca : P.cellsOf ta = 4
  s : P.underlying ts = some (.slice ta)
  cs : P.cellsOf ts = 1
def ndSm (n : Nat) (x : NdP) (k : Nat) : Prop := x.name.size ≤ n ∧ k ≤ n
theorem Tr.All.imp {α : Type} {p q : α → Nat → Prop} (h : ∀ x k, p x k → q x k) : ∀ t : Tr α, t.All p → t.All q := Tr.ind fun x kids ih ha => by
  obtain ⟨h1, h2⟩ := (Tr.All_eq _).1 ha
  exact (Tr.All_eq _).2 ⟨h _ _ h1, (Tr.Alls_iff _).2 fun t ht => ih t ht ((Tr.Alls_iff _).1 h2 t ht)⟩
theorem rdsN_nd (T : NdTypes P ti tz ta ts) : ∀ N, RdsN P ta (kTr fNd) (fun a n => a.cnt ≤ n ∧ a.All (ndSm n)) N := fun N => by
  induction N using Nat.strongRecOn with
  | ind N ih =>
    refine ⟨T.ca, fun {H enc w base spare held fuel cs x} h hN => ?_⟩
    obtain ⟨f0, f1, f2, f3, hu, h0, h1, h2, h3⟩ := T.a
    simp only [Prod.mk.injEq] at h0 h1 h2 h3
    obtain ⟨xs, n, hb, hl, hlen, hf⟩ := fields_of hu h
    rw [T.ca] at hl
    obtain ⟨c0, c1, c2, c3, rfl⟩ := four_len hl
    obtain ⟨y0, i0, e0⟩ := hf 0 f0 rfl
    obtain ⟨y1, i1, e1⟩ := hf 1 f1 rfl
    obtain ⟨y2, i2, e2⟩ := hf 2 f2 rfl
    obtain ⟨y3, i3, e3⟩ := hf 3 f3 rfl
    have s1 : P.cellsOf ti = 1 := T.i.sz
    have s2 : P.cellsOf tz = 1 := T.z.sz
    rw [h0.1, h0.2, s1] at e0
    rw [h1.1, h1.2, s2] at e1
    rw [h2.1, h2.2, s1] at e2
    rw [h3.1, h3.2, T.cs] at e3
    obtain ⟨a0, k0, _⟩ := T.i.rd e0
    obtain ⟨a1, k1, b1⟩ := T.z.rd e1
    obtain ⟨a2, k2, _⟩ := T.i.rd e2
    have p1 := part_le i1
    have p3 := part_le i3
    have q3 := bulk_one y3.1
    obtain ⟨M, hM⟩ : ∃ M, Rows.uptoBulk y3.1 = M + 1 := ⟨Rows.uptoBulk y3.1 - 1, by omega⟩
    obtain ⟨kids, ⟨A, c, hc, hle, hr⟩, ⟨hsum, hkl⟩, hel⟩ := (rdsN_sl Tr.cnt (fun a n h => h.1) T.s T.cs (ih M (by omega))).rd e3 (by omega)
    have g0 : [c0] = [Value.int .i64 a0] := k0
    have g1 : [c1] = [Value.string a1] := k1
    have g2 : [c2] = [Value.int .i64 a2] := k2
    have g3 : [c3] = [Value.slice A kids.length c] := hc
    simp only [List.cons.injEq, and_true] at g0 g1 g2 g3
    subst g0 g1 g2 g3
    refine ⟨.mk ⟨a0, a1, a2⟩ kids, Tr.K.mk (f := fNd) (x := ⟨a0, a1, a2⟩) hle hr, ?_, (Tr.All_eq _).2 ⟨⟨show a1.size ≤ _ by omega, show kids.length ≤ _ by omega⟩, (Tr.Alls_iff _).2 fun t ht => ?_⟩⟩
    · rw [Tr.cnt, cnts_sum]
      omega
    · obtain ⟨m, hm, _, hall⟩ := hel t ht
      exact Tr.All.imp (fun y k hy => ⟨by have := hy.1; omega, by have := hy.2; omega⟩) t hall
/-- Constructors, data. -/
structure DtTypes (P : Program) (tz tzs tc tcs td tds : TypeId) : Prop where
  z : RStr P tz
  zs : Rds P tzs kStr.sl (fun xs n => xs.length + 1 ≤ n ∧ ∀ x ∈ xs, ∃ m, m ≤ n ∧ x.size + 1 ≤ m)
  c : ∃ f0 f1 : Field, P.underlying tc = some (.struct #[f0, f1]) ∧ (f0.type, f0.offset) = (tz, 0) ∧ (f1.type, f1.offset) = (tzs, 1)
  cc : P.cellsOf tc = 2
  cs : P.underlying tcs = some (.slice tc)
  ccs : P.cellsOf tcs = 1
  d : ∃ f0 f1 : Field, P.underlying td = some (.struct #[f0, f1]) ∧ (f0.type, f0.offset) = (tz, 0) ∧ (f1.type, f1.offset) = (tcs, 1)
  cd : P.cellsOf td = 2
  ds : P.underlying tds = some (.slice td)
  cds : P.cellsOf tds = 1
def CtSm (n : Nat) (c : Ct) : Prop := c.name.size ≤ n ∧ c.fields.length ≤ n ∧ ∀ s ∈ c.fields, s.size ≤ n
theorem rds_ct (T : DtTypes P tz tzs tc tcs td tds) : Rds P tc kCt (fun a n => CtSm n a) := ⟨T.cc, fun {H enc w base spare held fuel cs x} h => by
  obtain ⟨f0, f1, hu, h0, h1⟩ := T.c
  simp only [Prod.mk.injEq] at h0 h1
  obtain ⟨xs, n, hb, hl, hlen, hf⟩ := fields_of hu h
  rw [T.cc] at hl
  obtain ⟨c0, c1, rfl⟩ := two_len hl
  obtain ⟨y0, i0, e0⟩ := hf 0 f0 rfl
  obtain ⟨y1, i1, e1⟩ := hf 1 f1 rfl
  have s0 : P.cellsOf tz = 1 := T.z.sz
  have s1 : P.cellsOf tzs = 1 := T.zs.sz
  rw [h0.1, h0.2, s0] at e0
  rw [h1.1, h1.2, s1] at e1
  obtain ⟨a0, k0, b0⟩ := T.z.rd e0
  obtain ⟨a1, ⟨A, c, k1, l1, r1⟩, b1, d1⟩ := T.zs.rd e1
  have p0 := part_le i0
  have p1 := part_le i1
  have g0 : [c0] = [Value.string a0] := k0
  have g1 : [c1] = [Value.slice A a1.length c] := k1
  simp only [List.cons.injEq, and_true] at g0 g1
  subst g0 g1
  exact ⟨⟨a0, a1⟩, ⟨A, c, rfl, l1, r1⟩, by dsimp only; omega, by dsimp only; omega, fun s hs => by obtain ⟨m, hm, h2⟩ := d1 s hs; omega⟩⟩
theorem rds_dt (T : DtTypes P tz tzs tc tcs td tds) : Rds P td kDt (fun a n => a.name.size ≤ n ∧ a.ctors.length ≤ n ∧ ∀ c ∈ a.ctors, CtSm n c) := ⟨T.cd, fun {H enc w base spare held fuel cs x} h => by
  obtain ⟨f0, f1, hu, h0, h1⟩ := T.d
  simp only [Prod.mk.injEq] at h0 h1
  obtain ⟨xs, n, hb, hl, hlen, hf⟩ := fields_of hu h
  rw [T.cd] at hl
  obtain ⟨c0, c1, rfl⟩ := two_len hl
  obtain ⟨y0, i0, e0⟩ := hf 0 f0 rfl
  obtain ⟨y1, i1, e1⟩ := hf 1 f1 rfl
  have s0 : P.cellsOf tz = 1 := T.z.sz
  rw [h0.1, h0.2, s0] at e0
  rw [h1.1, h1.2, T.ccs] at e1
  obtain ⟨a0, k0, b0⟩ := T.z.rd e0
  obtain ⟨a1, ⟨A, c, k1, l1, r1⟩, b1, d1⟩ := (rds_sl T.cs T.ccs (rds_ct T)).rd e1
  have p0 := part_le i0
  have p1 := part_le i1
  have g0 : [c0] = [Value.string a0] := k0
  have g1 : [c1] = [Value.slice A a1.length c] := k1
  simp only [List.cons.injEq, and_true] at g0 g1
  subst g0 g1
  exact ⟨⟨a0, a1⟩, ⟨A, c, rfl, l1, r1⟩, by dsimp only; omega, by dsimp only; omega, fun c hc => by obtain ⟨m, hm, h2, h3, h4⟩ := d1 c hc; exact ⟨by omega, by omega, fun s hs => by have := h4 s hs; omega⟩⟩⟩
theorem flatd_len : ∀ l : List Dt, (flat l).length = (l.map fun d => d.ctors.length).sum
  | [] => rfl
  | d :: r => by
    have := flatd_len r
    rw [show flat (d :: r) = ctsOf d d.ctors ++ flat r from rfl, List.length_append, this, List.map_cons, List.sum_cons]
    unfold ctsOf
    rw [List.length_map]
/-- Rows of data. -/
theorem rdsN_dts (T : DtTypes P tz tzs tc tcs td tds) (hN : N ≤ 1048576) : RdsN P tds kDt.sl (fun l n => DOk l ∧ l.length + 1 ≤ n) N := ⟨T.cds, fun {H enc w base spare held fuel cs x} h hx => by
  obtain ⟨l, hk, ⟨h1, h2⟩, h3⟩ := (rdsN_sl (fun d : Dt => d.ctors.length) (fun a n h => h.2.1) T.ds T.cds ((rds_dt T).n N)).rd h (by omega)
  refine ⟨l, hk, ⟨by omega, fun d hd => ?_, by rw [flatd_len]; omega, fun p hp => ?_⟩, h2⟩
  · obtain ⟨m, hm, h4, _⟩ := h3 d hd
    omega
  · obtain ⟨d, hd, hp2⟩ := List.mem_flatMap.1 hp
    obtain ⟨c, hc, rfl⟩ := List.mem_map.1 hp2
    obtain ⟨m, hm, _, _, h4⟩ := h3 d hd
    obtain ⟨h5, h6, h7⟩ := h4 c hc
    exact ⟨by dsimp only; omega, by dsimp only; omega, fun s hs => by have := h7 s hs; omega⟩⟩
/-- What is given: a grammar, data, types. -/
structure GvTypes (P : Program) (tg tds tzs tw : TypeId) : Prop where
  g : ∃ f0 f1 f2 : Field, P.underlying tw = some (.struct #[f0, f1, f2]) ∧ (f0.type, f0.offset) = (tg, 0) ∧ (f1.type, f1.offset) = (tds, 5) ∧ (f2.type, f2.offset) = (tzs, 6)
  cg : P.cellsOf tw = 7
structure Gv where
  g : Pl
  l : List Dt
  ty : List ByteArray
structure GvA where
  a : PlA
  l : Option Addr
  cl : Nat
  t : Option Addr
  ct : Nat
abbrev Gv.cs (x : Gv) (a : GvA) : List Value := [.slice a.a.k x.g.kinds.length a.a.ck, .slice a.a.p x.g.precs.length a.a.cp, .slice a.a.r x.g.rules.length a.a.cr, .slice a.a.q x.g.prods.length a.a.cq, .int .i64 x.g.start, .slice a.l x.l.length a.cl, .slice a.t x.ty.length a.ct]
structure Gv.ok (x : Gv) (a : GvA) : Prop where
  g : x.g.ok
  l : DOk x.l
  tl : x.ty.length ≤ 1048576
  ts : ∀ s ∈ x.ty, s.size ≤ 1048576
  q : x.g.prods.length ≤ 1048576
  st : I64 x.g.start
  cap : x.g.kinds.length ≤ a.a.ck ∧ x.g.precs.length ≤ a.a.cp ∧ x.g.rules.length ≤ a.a.cr ∧ x.g.prods.length ≤ a.a.cq
  cl : x.l.length ≤ a.cl
  ct : x.ty.length ≤ a.ct
structure Gv.rd (x : Gv) (w : World) (a : GvA) : Prop where
  g : x.g.rd w a.a
  l : Rd kDt w a.l x.l
  t : Rd kStr w a.t x.ty
theorem Gv.rd.below {x : Gv} {w w' : World} {a : GvA} (h : x.rd w a) (hb : Below w.heap.size w w') : x.rd w' a := ⟨h.g.below hb, h.l.below hb, h.t.below hb⟩
variable {tp tk tpc tq : TypeId}
theorem rd_gv (T : GTypes P ti tz ta ts tr tp) (T2 : GTypes2 P ti tp tk tpc tq tg) (D : DtTypes P tz tk tc tcs td tds) (G : GvTypes P tg tds tk tw) {H : Type} {enc : TypeId × Value → H} {w : World} {base : Nat} {spare : Nat → Bool} {held : Bool} {fuel : Nat} {cs : List Value} {x : DataW H × List MemPlace} (h : DataW.trod enc P w base spare held fuel tw cs = some x) (hN : Rows.uptoBulk x.1 ≤ 1048576) :
    ∃ (g : Gv) (a : GvA), cs = g.cs a ∧ g.rd w a ∧ g.ok a := by
  obtain ⟨f0, f1, f2, hu, h0, h1, h2⟩ := G.g
  simp only [Prod.mk.injEq] at h0 h1 h2
  obtain ⟨xs, n, hb, hl, hlen, hf⟩ := fields_of hu h
  rw [G.cg] at hl
  obtain ⟨c0, c1, c2, c3, c4, c5, c6, rfl⟩ := seven_len hl
  obtain ⟨y0, i0, e0⟩ := hf 0 f0 rfl
  obtain ⟨y1, i1, e1⟩ := hf 1 f1 rfl
  obtain ⟨y2, i2, e2⟩ := hf 2 f2 rfl
  have s2 : P.cellsOf tk = 1 := T2.k.sz
  rw [h0.1, h0.2, T2.cg] at e0
  rw [h1.1, h1.2, D.cds] at e1
  rw [h2.1, h2.2, s2] at e2
  have p0 := part_le i0
  have p1 := part_le i1
  have p2 := part_le i2
  obtain ⟨g, a, hcs, hr, hok, hcap, hst, hpr⟩ := rd_pl T T2 e0 (by omega)
  obtain ⟨l, ⟨A1, k1, g1, l1, r1⟩, hl1, _⟩ := (rdsN_dts D (Nat.le_refl _)).rd e1 (by omega)
  obtain ⟨ty, ⟨A2, k2, g2, l2, r2⟩, b2, d2⟩ := T2.k.rd e2
  have g0 : [c0, c1, c2, c3, c4] = g.cs a := hcs
  have g1' : [c5] = [Value.slice A1 l.length k1] := g1
  have g2' : [c6] = [Value.slice A2 ty.length k2] := g2
  simp only [List.cons.injEq, and_true] at g0 g1' g2'
  obtain ⟨q0, q1, q2, q3, q4⟩ := g0
  subst q0 q1 q2 q3 q4 g1' g2'
  exact ⟨⟨g, l, ty⟩, ⟨a, A1, k1, A2, k2⟩, rfl, ⟨hr, r1, r2⟩, hok, hl1, by dsimp only; omega, fun s hs => by obtain ⟨m, hm, h3⟩ := d2 s hs; omega, by dsimp only; omega, hst, hcap, l1, l2⟩
/-- A tree over a row. -/
structure TeTypes (P : Program) (td tr tt : TypeId) : Prop where
  g : ∃ f0 f1 : Field, P.underlying tt = some (.struct #[f0, f1]) ∧ (f0.type, f0.offset) = (td, 0) ∧ (f1.type, f1.offset) = (tr, 3)
  cg : P.cellsOf tt = 4
theorem rd_te (T : DvTypes P ti td ts) (hr : Rds P tr (kInt .i64).sl (fun xs n => xs.length + 1 ≤ n ∧ ∀ x ∈ xs, ∃ m, m ≤ n ∧ (Lit.int .i64 x).wf = true ∧ 1 ≤ m)) (G : TeTypes P td tr tt) {H : Type} {enc : TypeId × Value → H} {w : World} {base : Nat} {spare : Nat → Bool} {held : Bool} {fuel : Nat} {cs : List Value} {x : DataW H × List MemPlace} (h : DataW.trod enc P w base spare held fuel tt cs = some x) (hN : Rows.uptoBulk x.1 ≤ 1048576) :
    ∃ (d : Dv) (row : List Int) (B A : Option Addr) (k c : Nat), cs = [.int .i64 d.x.prod, .int .i64 d.x.tok, .slice B d.kids.length k, .slice A row.length c] ∧ Rd (kTr fDv) w B d.kids ∧ Rd (kInt .i64) w A row ∧ d.cnt ≤ 1048576 ∧ row.length ≤ 1048576 ∧ (d.kids.length ≤ k ∧ row.length ≤ c) ∧ ∀ x ∈ row, I64 x := by
  obtain ⟨f0, f1, hu, h0, h1⟩ := G.g
  simp only [Prod.mk.injEq] at h0 h1
  obtain ⟨xs, n, hb, hl, hlen, hf⟩ := fields_of hu h
  rw [G.cg] at hl
  obtain ⟨c0, c1, c2, c3, rfl⟩ := four_len hl
  obtain ⟨y0, i0, e0⟩ := hf 0 f0 rfl
  obtain ⟨y1, i1, e1⟩ := hf 1 f1 rfl
  have s1 : P.cellsOf tr = 1 := hr.sz
  rw [h0.1, h0.2, T.ca] at e0
  rw [h1.1, h1.2, s1] at e1
  have p0 := part_le i0
  have p1 := part_le i1
  obtain ⟨d, hd, hcn⟩ := (rdsN_dv T (Rows.uptoBulk y0.1)).rd e0 (Nat.le_refl _)
  obtain ⟨row, ⟨A, c, hc, hle, hrr⟩, b1, d1⟩ := hr.rd e1
  obtain ⟨B, k, hB, hBl, hBr⟩ := Tr.K.open hd
  have g1 : [c3] = [Value.slice A row.length c] := hc
  have g0 : [c0, c1, c2] = [Value.int .i64 d.x.prod, .int .i64 d.x.tok, .slice B d.kids.length k] := hB
  simp only [List.cons.injEq, and_true] at g0 g1
  obtain ⟨q0, q1, q2⟩ := g0
  subst q0 q1 q2 g1
  exact ⟨d, row, B, A, k, c, rfl, hBr, hrr, by omega, by omega, ⟨hBl, hle⟩, fun x hx => by obtain ⟨m, _, hw, _⟩ := d1 x hx; exact i64_wf hw⟩
end
end Go.Proofs.YtgdemplcpcacaaaFx

/-! How the arguments' types are read (seat 21). -/
namespace Go.Proofs.Ytgdemplcpcacaaa.RowTy
open Go Go.ChangeShapes Go.WideShapes Go.ChangeAt Go.RowKit Go.Deep Go.Joins Go.Proofs.YtgdemplcpcacaaaFx
theorem own : ownKnob Try.prog.godebug = none := by kernel_rfl
theorem laidOut : laidOutB Try.prog = true := by kernel_rfl
theorem rInt : Rds Try.prog 3 (kInt .i64) (fun a n => (Lit.int .i64 a).wf = true ∧ 1 ≤ n) := rds_int Try.underlying3 (by kernel_rfl)
theorem rStr : Rds Try.prog 9 kStr (fun a n => a.size + 1 ≤ n) := rds_str Try.underlying9 (by kernel_rfl)
theorem rRow : Rds Try.prog 51 (kInt .i64).sl (fun xs n => xs.length + 1 ≤ n ∧ ∀ x ∈ xs, ∃ m, m ≤ n ∧ (Lit.int .i64 x).wf = true ∧ 1 ≤ m) := rds_sl Try.underlying51 (by kernel_rfl) rInt
theorem rStrs : Rds Try.prog 40 kStr.sl (fun xs n => xs.length + 1 ≤ n ∧ ∀ x ∈ xs, ∃ m, m ≤ n ∧ x.size + 1 ≤ m) := rds_sl Try.underlying40 (by kernel_rfl) rStr
theorem gT : GTypes Try.prog 3 9 69 67 51 73 where
  i := rInt
  z := rStr
  a := ⟨_, _, _, _, Try.underlying69, rfl, rfl, rfl, rfl⟩
  ca := by kernel_rfl
  s := Try.underlying67
  cs := by kernel_rfl
  r := rRow
  p := ⟨_, _, _, _, Try.underlying73, rfl, rfl, rfl, rfl⟩
  cp := by kernel_rfl
theorem rPc : Rds Try.prog 145 fMv.kn (fun a n => (I64 a.d ∧ I64 a.n) ∧ 1 ≤ n) := rds_mv Try.underlying145 Try.underlying3 (by kernel_rfl) (by kernel_rfl) rfl rfl
theorem gT2 : GTypes2 Try.prog 3 73 40 41 42 44 where
  k := rStrs
  c := rds_sl Try.underlying41 (by kernel_rfl) rPc
  q := Try.underlying42
  cq := by kernel_rfl
  g := ⟨_, _, _, _, _, Try.underlying44, rfl, rfl, rfl, rfl, rfl⟩
  cg := by kernel_rfl
theorem dT : DtTypes Try.prog 9 40 80 81 83 45 where
  z := rStr
  zs := rStrs
  c := ⟨_, _, Try.underlying80, rfl, rfl⟩
  cc := by kernel_rfl
  cs := Try.underlying81
  ccs := by kernel_rfl
  d := ⟨_, _, Try.underlying83, rfl, rfl⟩
  cd := by kernel_rfl
  ds := Try.underlying45
  cds := by kernel_rfl
theorem gvT : GvTypes Try.prog 44 45 40 47 := ⟨⟨_, _, _, Try.underlying47, rfl, rfl, rfl⟩, by kernel_rfl⟩
theorem dvT : DvTypes Try.prog 3 50 48 := ⟨rInt, ⟨_, _, _, Try.underlying50, rfl, rfl, rfl⟩, by kernel_rfl, Try.underlying48, by kernel_rfl⟩
theorem teT : TeTypes Try.prog 50 51 53 := ⟨⟨_, _, Try.underlying53, rfl, rfl⟩, by kernel_rfl⟩
theorem ndT : NdTypes Try.prog 3 9 24 22 := ⟨rInt, rStr, ⟨_, _, _, _, Try.underlying24, rfl, rfl, rfl, rfl⟩, by kernel_rfl, Try.underlying22, by kernel_rfl⟩
/-- A node, read. -/
theorem rd_nd {H : Type} {enc : TypeId × Value → H} {w : World} {base : Nat} {spare : Nat → Bool} {held : Bool} {fuel : Nat} {cs : List Value} {x : DataW H × List MemPlace} (h : DataW.trod enc Try.prog w base spare held fuel 24 cs = some x) (hN : Rows.uptoBulk x.1 ≤ 1048576) :
    ∃ (t : Nd) (A : Option Addr) (k : Nat), cs = [.int .i64 t.x.kind, .string t.x.name, .int .i64 t.x.tok, .slice A t.kids.length k] ∧ Rd (kTr fNd) w A t.kids ∧ t.cnt ≤ 1048576 ∧ t.All (ndSm 1048576) ∧ t.kids.length ≤ k := by
  obtain ⟨t, hk, h1, h2⟩ := (rdsN_nd ndT (Rows.uptoBulk x.1)).rd h (Nat.le_refl _)
  obtain ⟨A, k, hA, hl, hr⟩ := Tr.K.open hk
  exact ⟨t, A, k, hA, hr, by omega, Tr.All.imp (fun y k hy => ⟨by have := hy.1; omega, by have := hy.2; omega⟩) t h2, hl⟩
theorem small_nd {t : Nd} (h : t.All (ndSm 1048576)) : t.All smallN := Tr.All.imp (fun y k hy => ⟨by have := hy.1; omega, by have := hy.2; omega⟩) t h
/-- Data, read. -/
theorem rd_dts {H : Type} {enc : TypeId × Value → H} {w : World} {base : Nat} {spare : Nat → Bool} {held : Bool} {fuel : Nat} {cs : List Value} {x : DataW H × List MemPlace} (h : DataW.trod enc Try.prog w base spare held fuel 45 cs = some x) (hN : Rows.uptoBulk x.1 ≤ 1048576) :
    ∃ (l : List Dt) (A : Option Addr) (c : Nat), cs = [.slice A l.length c] ∧ Rd kDt w A l ∧ DOk l ∧ l.length ≤ c := by
  obtain ⟨l, ⟨A, c, hc, hle, hr⟩, hl, _⟩ := (rdsN_dts dT (Nat.le_refl 1048576)).rd h hN
  exact ⟨l, A, c, hc, hr, hl, hle⟩
end Go.Proofs.Ytgdemplcpcacaaa.RowTy
