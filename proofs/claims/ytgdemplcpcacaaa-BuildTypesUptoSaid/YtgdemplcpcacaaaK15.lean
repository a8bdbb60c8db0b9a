/- Whether two nodes are the same. What came in, as it reads. Numbers, seven bits a byte: plain; bit operations and divisions. A table's bytes: plain. What came in, its rows' lengths together. Grammars that came in, as they read. Derivations, nodes and data that came in, as they read. Nodes' types, parts, and sameness are told as the document says. How the arguments' types are read (seat 21). -/
import Derived.Test.YtgdemplcpcacaaaProg
import Derived.Test.YtgdemplcpcacaaaK03
import Derived.Test.YtgdemplcpcacaaaRows
import Derived.Test.YtgdemplcpcacaaaK02
import Derived.WalkKit
import Derived.ProofKit
import Derived.OpenShut
import Derived.JoinedCond
import Derived.Deep.Slices
import Derived.Deep.Strs
import Derived.Lib.SmallJoins
import Derived.Carry
import Derived.WideShapes
import Derived.Test.YtgdemplcpcacaaaK13
import Derived.Laws.BitsLemmas
import Derived.Test.YtgdemplcpcacaaaK14
set_option linter.unusedVariables false
set_option linter.unusedSimpArgs false
/-! Whether two nodes are the same. -/
namespace Go.Proofs.Ytgdemplcpcacaaa.SameN
open Go Go.RowKit Go.Proofs.YtgdemplcpcacaaaFx 
theorem agg24 : Agg Try.prog 24 4 := agg_of Try.underlying24 (by kernel_rfl)
theorem en14 : Enters Try.prog 14 := enters Try.func14 (by kernel_rfl) rfl
theorem en27 : Enters Try.prog 27 := enters Try.func27 (by kernel_rfl) rfl
theorem fa24_0 : FieldAt Try.prog 24 0 0 := field_at (sz := 0) Try.underlying24 rfl (by kernel_rfl) rfl
theorem fa24_1 : FieldAt Try.prog 24 1 1 := field_at (sz := 0) Try.underlying24 rfl (by kernel_rfl) rfl
theorem fa24_2 : FieldAt Try.prog 24 2 2 := field_at (sz := 0) Try.underlying24 rfl (by kernel_rfl) rfl
theorem fa24_3 : FieldAt Try.prog 24 3 3 := field_at (sz := 0) Try.underlying24 rfl (by kernel_rfl) rfl
theorem mixed : Try.prog.follows .mixedOrders = true := by kernel_rfl
theorem one22 : One Try.prog 22 := one_of Try.underlying22 rfl (by kernel_rfl)
theorem one3 : One Try.prog 3 := one_of Try.underlying3 rfl (by kernel_rfl)
theorem one9 : One Try.prog 9 := one_of Try.underlying9 rfl (by kernel_rfl)
theorem sz24 : ∀ W, (sizeOf 24).run Try.prog W = .ok 4 W := size_of (by kernel_rfl)

theorem ndp_eq {a b : NdP} (h1 : a.kind = b.kind) (h2 : a.name = b.name) (h3 : a.tok = b.tok) : a = b := by
  cases a
  cases b
  cases h1
  cases h2
  cases h3
  rfl
theorem nd_ext {t u : Nd} (hx : t.x = u.x) (hl : t.kids.length = u.kids.length) (h : ∀ j, j < t.kids.length → t.kids.getD j nd0 = u.kids.getD j nd0) : t = u := by
  have hk : t.kids = u.kids := List.ext_getElem hl fun j h1 h2 => by
    have := h j h1
    rwa [List.getD_eq_getElem?_getD, List.getD_eq_getElem?_getD, List.getElem?_eq_getElem h1, List.getElem?_eq_getElem h2] at this
  cases t
  cases u
  cases hx
  cases hk
  rfl

def rsameOk (t : Nd) : Prop := ∀ (u : Nd) (w : World) (A B : Option Addr) (k k2 : Nat) (ht : Rd (kTr fNd) w A t.kids) (hu : Rd (kTr fNd) w B u.kids) (hf : t.All few), Calls Try.prog 14 #[.agg #[.int .i64 t.x.kind, .string t.x.name, .int .i64 t.x.tok, .slice A t.kids.length k], .agg #[.int .i64 u.x.kind, .string u.x.name, .int .i64 u.x.tok, .slice B u.kids.length k2]] w fun e w' => ∃ v, e = .returned v ∧ v = .bool (dec (t = u)) ∧ Holds w [] w'

set_option maxHeartbeats 3200000 in
set_option maxRecDepth 100000 in
theorem rsame_step {t u : Nd} {w : World} {A B : Option Addr} {k k2 : Nat} (ht : Rd (kTr fNd) w A t.kids) (hu : Rd (kTr fNd) w B u.kids) (hf : t.All few) (ih : ∀ t' ∈ t.kids, rsameOk t') : Calls Try.prog 14 #[.agg #[.int .i64 t.x.kind, .string t.x.name, .int .i64 t.x.tok, .slice A t.kids.length k], .agg #[.int .i64 u.x.kind, .string u.x.name, .int .i64 u.x.tok, .slice B u.kids.length k2]] w fun e w' => ∃ v, e = .returned v ∧ v = .bool (dec (t = u)) ∧ Holds w [] w' := by
  obtain ⟨hkk, hks⟩ := (Tr.All_eq t).1 hf
  unfold few at hkk
  refine calls_of Try.func14 rfl Try.ntmps14 rfl ?_
  have H := Holds.start w
  refine wcR ?_
  refine wl_box (cs := [_, _, _, _]) H rfl rfl rfl ?_
  intro b2 w1 hb2 H2
  refine wl_box (cs := [_, _, _, _]) H2 rfl rfl rfl ?_
  intro b3 w3 hb3 H4
  refine wA ?_
  refine wl_nil ?_
  refine wc_seq ?_
  refine wc_cut (σ := Bool) (fun q => [(2, .pointer (some ⟨b2, 0, none⟩)), (3, .pointer (some ⟨b3, 0, none⟩)), (33, .bool q)]) (fun q W => q = dec (¬ (t.x = u.x ∧ t.kids.length = u.kids.length)) ∧ Holds w [Blk b3 24 [.int .i64 u.x.kind, .string u.x.name, .int .i64 u.x.tok, .slice B u.kids.length k2], Blk b2 24 [.int .i64 t.x.kind, .string t.x.name, .int .i64 t.x.tok, .slice A t.kids.length k]] W) ?_ ?_
  ·refine wc_region ?_
   refine wV (v_fb (o2 := 0) fa24_0 rfl rfl) ?_
   refine wV (v_load one3 rfl (H4.at (by repeat constructor) rfl)) ?_
   refine wV (v_fb (o2 := 0) fa24_0 rfl rfl) ?_
   refine wV (v_load one3 rfl (H4.at (by repeat constructor) rfl)) ?_
   refine wV (v_neq rfl rfl) ?_
   refine wM ?_
   refine wl_guard rfl rfl rfl (fun g11 => ?_) (fun g11 => ?_)
   rotate_left
   ·have g11p := of_nd_t g11
    refine wF g11 ?_
    refine wF g11 ?_
    refine wF g11 ?_
    refine wF g11 ?_
    refine wV (v_pick_t rfl g11 rfl) ?_
    refine wM ?_
    refine wF rfl ?_
    refine wF rfl ?_
    refine wF rfl ?_
    refine wF rfl ?_
    refine wF rfl ?_
    refine wV (v_pick_t rfl rfl rfl) ?_
    refine wM ?_
    refine wF rfl ?_
    refine wF rfl ?_
    refine wF rfl ?_
    refine wF rfl ?_
    refine wF rfl ?_
    refine wF rfl ?_
    refine wF rfl ?_
    refine wV (v_pick_t rfl rfl rfl) ?_
    refine wl_nil ?_
    first
      | exact ⟨_, (sc rfl (sc rfl (sc rfl (sn _)))), ⟨dec_eq ⟨fun hd hh => (by have h_ := of_nd_t hd; have h2_ := hh.2; omega), fun hh => (by
          cases h_ : decide ((t.kids.length : Int) = u.kids.length)
          · rfl
          · exact absurd ⟨ndp_eq g11p g18p g25p, by have h2_ := oT h_; omega⟩ hh)⟩, H4⟩⟩
      | exact ⟨_, (sc rfl (sc rfl (sc rfl (sn _)))), ⟨(dec_t fun hh => g11p (congrArg NdP.kind hh.1)).symm, H4⟩⟩
      | exact ⟨_, (sc rfl (sc rfl (sc rfl (sn _)))), ⟨(dec_t fun hh => g18p (congrArg NdP.name hh.1)).symm, H4⟩⟩
      | exact ⟨_, (sc rfl (sc rfl (sc rfl (sn _)))), ⟨(dec_t fun hh => g25p (congrArg NdP.tok hh.1)).symm, H4⟩⟩
   have g11p := of_nd_f g11
   refine wV (v_fb (o2 := 1) fa24_1 rfl rfl) ?_
   refine wO g11 ?_
   refine wV (v_load one9 rfl (H4.at (by repeat constructor) rfl)) ?_
   refine wO g11 ?_
   refine wV (v_fb (o2 := 1) fa24_1 rfl rfl) ?_
   refine wO g11 ?_
   refine wV (v_load one9 rfl (H4.at (by repeat constructor) rfl)) ?_
   refine wO g11 ?_
   refine wV (v_neqs rfl rfl) ?_
   refine wV (v_pick_f rfl g11 rfl) ?_
   refine wM ?_
   refine wl_guard rfl rfl rfl (fun g18 => ?_) (fun g18 => ?_)
   rotate_left
   ·have g18p := of_nd_t g18
    refine wF g18 ?_
    refine wF g18 ?_
    refine wF g18 ?_
    refine wF g18 ?_
    refine wV (v_pick_t rfl g18 rfl) ?_
    refine wM ?_
    refine wF rfl ?_
    refine wF rfl ?_
    refine wF rfl ?_
    refine wF rfl ?_
    refine wF rfl ?_
    refine wF rfl ?_
    refine wF rfl ?_
    refine wV (v_pick_t rfl rfl rfl) ?_
    refine wl_nil ?_
    first
      | exact ⟨_, (sc rfl (sc rfl (sc rfl (sn _)))), ⟨dec_eq ⟨fun hd hh => (by have h_ := of_nd_t hd; have h2_ := hh.2; omega), fun hh => (by
          cases h_ : decide ((t.kids.length : Int) = u.kids.length)
          · rfl
          · exact absurd ⟨ndp_eq g11p g18p g25p, by have h2_ := oT h_; omega⟩ hh)⟩, H4⟩⟩
      | exact ⟨_, (sc rfl (sc rfl (sc rfl (sn _)))), ⟨(dec_t fun hh => g11p (congrArg NdP.kind hh.1)).symm, H4⟩⟩
      | exact ⟨_, (sc rfl (sc rfl (sc rfl (sn _)))), ⟨(dec_t fun hh => g18p (congrArg NdP.name hh.1)).symm, H4⟩⟩
      | exact ⟨_, (sc rfl (sc rfl (sc rfl (sn _)))), ⟨(dec_t fun hh => g25p (congrArg NdP.tok hh.1)).symm, H4⟩⟩
   have g18p := of_nd_f g18
   refine wV (v_fb (o2 := 2) fa24_2 rfl rfl) ?_
   refine wO g18 ?_
   refine wV (v_load one3 rfl (H4.at (by repeat constructor) rfl)) ?_
   refine wO g18 ?_
   refine wV (v_fb (o2 := 2) fa24_2 rfl rfl) ?_
   refine wO g18 ?_
   refine wV (v_load one3 rfl (H4.at (by repeat constructor) rfl)) ?_
   refine wO g18 ?_
   refine wV (v_neq rfl rfl) ?_
   refine wV (v_pick_f rfl g18 rfl) ?_
   refine wM ?_
   refine wl_guard rfl rfl rfl (fun g25 => ?_) (fun g25 => ?_)
   rotate_left
   ·have g25p := of_nd_t g25
    refine wF g25 ?_
    refine wF g25 ?_
    refine wF g25 ?_
    refine wF g25 ?_
    refine wF g25 ?_
    refine wF g25 ?_
    refine wV (v_pick_t rfl g25 rfl) ?_
    refine wl_nil ?_
    first
      | exact ⟨_, (sc rfl (sc rfl (sc rfl (sn _)))), ⟨dec_eq ⟨fun hd hh => (by have h_ := of_nd_t hd; have h2_ := hh.2; omega), fun hh => (by
          cases h_ : decide ((t.kids.length : Int) = u.kids.length)
          · rfl
          · exact absurd ⟨ndp_eq g11p g18p g25p, by have h2_ := oT h_; omega⟩ hh)⟩, H4⟩⟩
      | exact ⟨_, (sc rfl (sc rfl (sc rfl (sn _)))), ⟨(dec_t fun hh => g11p (congrArg NdP.kind hh.1)).symm, H4⟩⟩
      | exact ⟨_, (sc rfl (sc rfl (sc rfl (sn _)))), ⟨(dec_t fun hh => g18p (congrArg NdP.name hh.1)).symm, H4⟩⟩
      | exact ⟨_, (sc rfl (sc rfl (sc rfl (sn _)))), ⟨(dec_t fun hh => g25p (congrArg NdP.tok hh.1)).symm, H4⟩⟩
   have g25p := of_nd_f g25
   refine wV (v_fb (o2 := 3) fa24_3 rfl rfl) ?_
   refine wO g25 ?_
   refine wV (v_load one22 rfl (H4.at (by repeat constructor) rfl)) ?_
   refine wO g25 ?_
   refine wV (v_len Try.underlying22 rfl) ?_
   refine wO g25 ?_
   refine wV (v_fb (o2 := 3) fa24_3 rfl rfl) ?_
   refine wO g25 ?_
   refine wV (v_load one22 rfl (H4.at (by repeat constructor) rfl)) ?_
   refine wO g25 ?_
   refine wV (v_len Try.underlying22 rfl) ?_
   refine wO g25 ?_
   refine wV (v_neq rfl rfl) ?_
   refine wV (v_pick_f rfl g25 rfl) ?_
   refine wl_nil ?_
   first
     | exact ⟨_, (sc rfl (sc rfl (sc rfl (sn _)))), ⟨dec_eq ⟨fun hd hh => (by have h_ := of_nd_t hd; have h2_ := hh.2; omega), fun hh => (by
         cases h_ : decide ((t.kids.length : Int) = u.kids.length)
         · rfl
         · exact absurd ⟨ndp_eq g11p g18p g25p, by have h2_ := oT h_; omega⟩ hh)⟩, H4⟩⟩
     | exact ⟨_, (sc rfl (sc rfl (sc rfl (sn _)))), ⟨(dec_t fun hh => g11p (congrArg NdP.kind hh.1)).symm, H4⟩⟩
     | exact ⟨_, (sc rfl (sc rfl (sc rfl (sn _)))), ⟨(dec_t fun hh => g18p (congrArg NdP.name hh.1)).symm, H4⟩⟩
     | exact ⟨_, (sc rfl (sc rfl (sc rfl (sn _)))), ⟨(dec_t fun hh => g25p (congrArg NdP.tok hh.1)).symm, H4⟩⟩
  rintro q Wm ⟨hq, H⟩
  refine wc_cond rfl (fun c0 => ?_) (fun c0 => ?_)
  ·refine wcR ?_
   refine wA ?_
   refine wl_nil ?_
   refine wc_ret ?_
   first
     | (have q_ := c2
        exact ⟨_, res1 rfl rfl, congrArg Value.bool (dec_f fun hh => of_ndec (of_n_t c2) (by rw [hh])).symm, H.pm (by repeat (first | exact Pm.nil _ | constructor))⟩)
     | (have q_ := c1p
        exact ⟨_, res1 rfl rfl, congrArg Value.bool (dec_t (nd_ext hx hlen fun j hj => ha j (by omega))).symm, H.pm (by repeat (first | exact Pm.nil _ | constructor))⟩)
     | exact ⟨_, res1 rfl rfl, congrArg Value.bool (dec_f fun hh => of_dec (hq.symm.trans c0) (by rw [hh]; exact ⟨rfl, rfl⟩)).symm, H.pm (by repeat (first | exact Pm.nil _ | constructor))⟩
  obtain ⟨hx, hlen⟩ := Classical.byContradiction (of_ndec (hq.symm.trans c0))
  refine wc_skip ?_
  refine wc_seq ?_
  refine wcR ?_
  refine wA ?_
  refine wl_nil ?_
  refine wc_block ?_
  refine wc_loop (σ := Nat) (fun s => [(2, .pointer (some ⟨b2, 0, none⟩)), (3, .pointer (some ⟨b3, 0, none⟩)), (5, .int .i64 s)]) (fun s W => (s ≤ t.kids.length ∧ ∀ j, j < s → t.kids.getD j nd0 = u.kids.getD j nd0) ∧ Holds w [Blk b3 24 [.int .i64 u.x.kind, .string u.x.name, .int .i64 u.x.tok, .slice B u.kids.length k2], Blk b2 24 [.int .i64 t.x.kind, .string t.x.name, .int .i64 t.x.tok, .slice A t.kids.length k]] W) (fun s => t.kids.length - s) 0 (sc rfl (sc rfl (sc rfl (sn _)))) ⟨⟨Nat.zero_le _, upto_zero⟩, H⟩ ?_
  rintro i W0 ⟨⟨hi, ha⟩, H⟩
  refine wc_seq ?_
  refine wcR ?_
  refine wM ?_
  refine wV (v_fb (o2 := 3) fa24_3 rfl rfl) ?_
  refine wV (v_load one22 rfl (H.at (by repeat constructor) rfl)) ?_
  refine wV (v_len Try.underlying22 rfl) ?_
  refine wV (v_lss rfl rfl) ?_
  refine wl_nil ?_
  refine wc_cond rfl (fun c1 => ?_) (fun c1 => ?_)
  rotate_left
  ·have c1p := oF c1
   refine wc_exit ?_
   refine wcR ?_
   refine wA ?_
   refine wl_nil ?_
   refine wc_ret ?_
   first
     | (have q_ := c2
        exact ⟨_, res1 rfl rfl, congrArg Value.bool (dec_f fun hh => of_ndec (of_n_t c2) (by rw [hh])).symm, H.pm (by repeat (first | exact Pm.nil _ | constructor))⟩)
     | (have q_ := c1p
        exact ⟨_, res1 rfl rfl, congrArg Value.bool (dec_t (nd_ext hx hlen fun j hj => ha j (by omega))).symm, H.pm (by repeat (first | exact Pm.nil _ | constructor))⟩)
     | exact ⟨_, res1 rfl rfl, congrArg Value.bool (dec_f fun hh => of_dec (hq.symm.trans c0) (by rw [hh]; exact ⟨rfl, rfl⟩)).symm, H.pm (by repeat (first | exact Pm.nil _ | constructor))⟩
  have c1p := oT c1
  have hin : i < t.kids.length := by omega
  refine wc_skip ?_
  refine wc_seq ?_
  refine wc_block ?_
  refine wc_seq ?_
  refine wc_tree [0, 1, 2, 3, 4, 5, 6, 7, 8, 9] (fun W => Holds w [Blk b3 24 [.int .i64 u.x.kind, .string u.x.name, .int .i64 u.x.tok, .slice B u.kids.length k2], Blk b2 24 [.int .i64 t.x.kind, .string t.x.name, .int .i64 t.x.tok, .slice A t.kids.length k]] W) mixed ?_
  have Hd := H.drew
  have HSd : Holds w [Blk b3 24 [.int .i64 u.x.kind, .string u.x.name, .int .i64 u.x.tok, .slice B u.kids.length k2], Blk b2 24 [.int .i64 t.x.kind, .string t.x.name, .int .i64 t.x.tok, .slice A t.kids.length k]] _ := Hd.pm (by repeat constructor)
  refine wjV (k := 0) rfl HSd (fun W HW => v_fb (o2 := 3) fa24_3 rfl rfl) ?_
  refine wjV (k := 1) rfl HSd (fun W HW => v_load one22 rfl (HW.at (by repeat constructor) rfl)) ?_
  refine wjV (k := 2) rfl HSd (fun W HW => v_move rfl) ?_
  refine wjV (k := 3) rfl HSd (fun W HW => v_idx Try.underlying22 sz24 ht.ad rfl rfl (by omega) (by omega)) ?_
  obtain ⟨B45_, k45_, hc45_, hl45_, hr45_⟩ := ht.atTr nd0 (i := i) (by omega)
  refine wjV (k := 4) rfl HSd (fun W HW => v_loadN (cs := [.int .i64 (t.kids.getD i nd0).x.kind, .string (t.kids.getD i nd0).x.name, .int .i64 (t.kids.getD i nd0).x.tok, .slice B45_ (t.kids.getD i nd0).kids.length k45_]) agg24 rfl rfl (fun q_ u_ hu_ => HW.cell (hc45_ q_ u_ hu_))) ?_
  refine wjV (k := 5) rfl HSd (fun W HW => v_fb (o2 := 3) fa24_3 rfl rfl) ?_
  refine wjV (k := 6) rfl HSd (fun W HW => v_load one22 rfl (HW.at (by repeat constructor) rfl)) ?_
  refine wjV (k := 7) rfl HSd (fun W HW => v_move rfl) ?_
  refine wjV (k := 8) rfl HSd (fun W HW => v_idx Try.underlying22 sz24 hu.ad rfl rfl (by omega) (by omega)) ?_
  obtain ⟨B50_, k50_, hc50_, hl50_, hr50_⟩ := hu.atTr nd0 (i := i) (by omega)
  refine wjV (k := 9) rfl HSd (fun W HW => v_loadN (cs := [.int .i64 (u.kids.getD i nd0).x.kind, .string (u.kids.getD i nd0).x.name, .int .i64 (u.kids.getD i nd0).x.tok, .slice B50_ (u.kids.getD i nd0).kids.length k50_]) agg24 rfl rfl (fun q_ u_ hu_ => HW.cell (hc50_ q_ u_ hu_))) ?_
  refine wj_t (k := 10) rfl (by kernel_rfl) ?_
  refine wl_call en14 rfl rfl (ih _ (getD_mem (z := nd0) hin) _ _ _ _ _ _ (hr45_.below Hd.old) (hr50_.below Hd.old) (Tr.Alls_at nd0 hin hks)) ?_
  rintro _ w5 ⟨rfl, Hc⟩
  have H6 := Hd.call0 Hc
  refine wl_nil (tn ⟨fun hlt => absurd hlt (by rw [show allH _ _ _ = true by kernel_rfl]; simp), ?_⟩)
  refine wj_t (k := 11) rfl (by kernel_rfl) ?_
  refine wV (v_not rfl) ?_
  refine wl_nil (tn ⟨fun hlt => absurd hlt (by rw [show allH _ _ _ = true by kernel_rfl]; simp), ?_⟩)
  refine wj_done (by kernel_rfl) ?_
  refine wc_cond rfl (fun c2 => ?_) (fun c2 => ?_)
  rotate_left
  ·have c2p := of_n_f c2
   refine wc_skip ?_
   refine wc_region ?_
   refine wM ?_
   refine wV (v_addi rfl rfl (by omega)) ?_
   refine wA ?_
   refine wl_nil ?_
   exact ⟨i + 1, (sc rfl (sc rfl (sc rfl (sn _)))), ⟨⟨by omega, upto_succ ha (of_dec (of_n_f c2))⟩, H6⟩, by omega⟩
  have c2p := of_n_t c2
  refine wcR ?_
  refine wA ?_
  refine wl_nil ?_
  refine wc_ret ?_
  first
    | (have q_ := c2
       exact ⟨_, res1 rfl rfl, congrArg Value.bool (dec_f fun hh => of_ndec (of_n_t c2) (by rw [hh])).symm, H6.pm (by repeat (first | exact Pm.nil _ | constructor))⟩)
    | (have q_ := c1p
       exact ⟨_, res1 rfl rfl, congrArg Value.bool (dec_t (nd_ext hx hlen fun j hj => ha j (by omega))).symm, H6.pm (by repeat (first | exact Pm.nil _ | constructor))⟩)
    | exact ⟨_, res1 rfl rfl, congrArg Value.bool (dec_f fun hh => of_dec (hq.symm.trans c0) (by rw [hh]; exact ⟨rfl, rfl⟩)).symm, H6.pm (by repeat (first | exact Pm.nil _ | constructor))⟩

theorem rsame_calls : ∀ t : Nd, rsameOk t := Tr.ind fun x kids ih => fun u w A B k k2 ht hu hf => rsame_step (t := .mk x kids) ht hu hf ih

def psameOk (t : Nd) : Prop := ∀ (u : Nd) (w : World) (A B : Option Addr) (k k2 : Nat) (ht : Rd (kTr fNd) w A t.kids) (hu : Rd (kTr fNd) w B u.kids) (hf : t.All few), Calls Try.prog 27 #[.agg #[.int .i64 t.x.kind, .string t.x.name, .int .i64 t.x.tok, .slice A t.kids.length k], .agg #[.int .i64 u.x.kind, .string u.x.name, .int .i64 u.x.tok, .slice B u.kids.length k2]] w fun e w' => ∃ v, e = .returned v ∧ v = .bool (dec (t = u)) ∧ Holds w [] w'

set_option maxHeartbeats 3200000 in
set_option maxRecDepth 100000 in
theorem psame_step {t u : Nd} {w : World} {A B : Option Addr} {k k2 : Nat} (ht : Rd (kTr fNd) w A t.kids) (hu : Rd (kTr fNd) w B u.kids) (hf : t.All few) (ih : ∀ t' ∈ t.kids, psameOk t') : Calls Try.prog 27 #[.agg #[.int .i64 t.x.kind, .string t.x.name, .int .i64 t.x.tok, .slice A t.kids.length k], .agg #[.int .i64 u.x.kind, .string u.x.name, .int .i64 u.x.tok, .slice B u.kids.length k2]] w fun e w' => ∃ v, e = .returned v ∧ v = .bool (dec (t = u)) ∧ Holds w [] w' := by
  obtain ⟨hkk, hks⟩ := (Tr.All_eq t).1 hf
  unfold few at hkk
  refine calls_of Try.func27 rfl Try.ntmps27 rfl ?_
  have H := Holds.start w
  refine wcR ?_
  refine wl_box (cs := [_, _, _, _]) H rfl rfl rfl ?_
  intro b2 w1 hb2 H2
  refine wl_box (cs := [_, _, _, _]) H2 rfl rfl rfl ?_
  intro b3 w3 hb3 H4
  refine wA ?_
  refine wl_nil ?_
  refine wc_seq ?_
  refine wc_cut (σ := Bool) (fun q => [(2, .pointer (some ⟨b2, 0, none⟩)), (3, .pointer (some ⟨b3, 0, none⟩)), (33, .bool q)]) (fun q W => q = dec (¬ (t.x = u.x ∧ t.kids.length = u.kids.length)) ∧ Holds w [Blk b3 24 [.int .i64 u.x.kind, .string u.x.name, .int .i64 u.x.tok, .slice B u.kids.length k2], Blk b2 24 [.int .i64 t.x.kind, .string t.x.name, .int .i64 t.x.tok, .slice A t.kids.length k]] W) ?_ ?_
  ·refine wc_region ?_
   refine wV (v_fb (o2 := 0) fa24_0 rfl rfl) ?_
   refine wV (v_load one3 rfl (H4.at (by repeat constructor) rfl)) ?_
   refine wV (v_fb (o2 := 0) fa24_0 rfl rfl) ?_
   refine wV (v_load one3 rfl (H4.at (by repeat constructor) rfl)) ?_
   refine wV (v_neq rfl rfl) ?_
   refine wM ?_
   refine wl_guard rfl rfl rfl (fun g11 => ?_) (fun g11 => ?_)
   rotate_left
   ·have g11p := of_nd_t g11
    refine wF g11 ?_
    refine wF g11 ?_
    refine wF g11 ?_
    refine wF g11 ?_
    refine wV (v_pick_t rfl g11 rfl) ?_
    refine wM ?_
    refine wF rfl ?_
    refine wF rfl ?_
    refine wF rfl ?_
    refine wF rfl ?_
    refine wF rfl ?_
    refine wV (v_pick_t rfl rfl rfl) ?_
    refine wM ?_
    refine wF rfl ?_
    refine wF rfl ?_
    refine wF rfl ?_
    refine wF rfl ?_
    refine wF rfl ?_
    refine wF rfl ?_
    refine wF rfl ?_
    refine wV (v_pick_t rfl rfl rfl) ?_
    refine wl_nil ?_
    first
      | exact ⟨_, (sc rfl (sc rfl (sc rfl (sn _)))), ⟨dec_eq ⟨fun hd hh => (by have h_ := of_nd_t hd; have h2_ := hh.2; omega), fun hh => (by
          cases h_ : decide ((t.kids.length : Int) = u.kids.length)
          · rfl
          · exact absurd ⟨ndp_eq g11p g18p g25p, by have h2_ := oT h_; omega⟩ hh)⟩, H4⟩⟩
      | exact ⟨_, (sc rfl (sc rfl (sc rfl (sn _)))), ⟨(dec_t fun hh => g11p (congrArg NdP.kind hh.1)).symm, H4⟩⟩
      | exact ⟨_, (sc rfl (sc rfl (sc rfl (sn _)))), ⟨(dec_t fun hh => g18p (congrArg NdP.name hh.1)).symm, H4⟩⟩
      | exact ⟨_, (sc rfl (sc rfl (sc rfl (sn _)))), ⟨(dec_t fun hh => g25p (congrArg NdP.tok hh.1)).symm, H4⟩⟩
   have g11p := of_nd_f g11
   refine wV (v_fb (o2 := 1) fa24_1 rfl rfl) ?_
   refine wO g11 ?_
   refine wV (v_load one9 rfl (H4.at (by repeat constructor) rfl)) ?_
   refine wO g11 ?_
   refine wV (v_fb (o2 := 1) fa24_1 rfl rfl) ?_
   refine wO g11 ?_
   refine wV (v_load one9 rfl (H4.at (by repeat constructor) rfl)) ?_
   refine wO g11 ?_
   refine wV (v_neqs rfl rfl) ?_
   refine wV (v_pick_f rfl g11 rfl) ?_
   refine wM ?_
   refine wl_guard rfl rfl rfl (fun g18 => ?_) (fun g18 => ?_)
   rotate_left
   ·have g18p := of_nd_t g18
    refine wF g18 ?_
    refine wF g18 ?_
    refine wF g18 ?_
    refine wF g18 ?_
    refine wV (v_pick_t rfl g18 rfl) ?_
    refine wM ?_
    refine wF rfl ?_
    refine wF rfl ?_
    refine wF rfl ?_
    refine wF rfl ?_
    refine wF rfl ?_
    refine wF rfl ?_
    refine wF rfl ?_
    refine wV (v_pick_t rfl rfl rfl) ?_
    refine wl_nil ?_
    first
      | exact ⟨_, (sc rfl (sc rfl (sc rfl (sn _)))), ⟨dec_eq ⟨fun hd hh => (by have h_ := of_nd_t hd; have h2_ := hh.2; omega), fun hh => (by
          cases h_ : decide ((t.kids.length : Int) = u.kids.length)
          · rfl
          · exact absurd ⟨ndp_eq g11p g18p g25p, by have h2_ := oT h_; omega⟩ hh)⟩, H4⟩⟩
      | exact ⟨_, (sc rfl (sc rfl (sc rfl (sn _)))), ⟨(dec_t fun hh => g11p (congrArg NdP.kind hh.1)).symm, H4⟩⟩
      | exact ⟨_, (sc rfl (sc rfl (sc rfl (sn _)))), ⟨(dec_t fun hh => g18p (congrArg NdP.name hh.1)).symm, H4⟩⟩
      | exact ⟨_, (sc rfl (sc rfl (sc rfl (sn _)))), ⟨(dec_t fun hh => g25p (congrArg NdP.tok hh.1)).symm, H4⟩⟩
   have g18p := of_nd_f g18
   refine wV (v_fb (o2 := 2) fa24_2 rfl rfl) ?_
   refine wO g18 ?_
   refine wV (v_load one3 rfl (H4.at (by repeat constructor) rfl)) ?_
   refine wO g18 ?_
   refine wV (v_fb (o2 := 2) fa24_2 rfl rfl) ?_
   refine wO g18 ?_
   refine wV (v_load one3 rfl (H4.at (by repeat constructor) rfl)) ?_
   refine wO g18 ?_
   refine wV (v_neq rfl rfl) ?_
   refine wV (v_pick_f rfl g18 rfl) ?_
   refine wM ?_
   refine wl_guard rfl rfl rfl (fun g25 => ?_) (fun g25 => ?_)
   rotate_left
   ·have g25p := of_nd_t g25
    refine wF g25 ?_
    refine wF g25 ?_
    refine wF g25 ?_
    refine wF g25 ?_
    refine wF g25 ?_
    refine wF g25 ?_
    refine wV (v_pick_t rfl g25 rfl) ?_
    refine wl_nil ?_
    first
      | exact ⟨_, (sc rfl (sc rfl (sc rfl (sn _)))), ⟨dec_eq ⟨fun hd hh => (by have h_ := of_nd_t hd; have h2_ := hh.2; omega), fun hh => (by
          cases h_ : decide ((t.kids.length : Int) = u.kids.length)
          · rfl
          · exact absurd ⟨ndp_eq g11p g18p g25p, by have h2_ := oT h_; omega⟩ hh)⟩, H4⟩⟩
      | exact ⟨_, (sc rfl (sc rfl (sc rfl (sn _)))), ⟨(dec_t fun hh => g11p (congrArg NdP.kind hh.1)).symm, H4⟩⟩
      | exact ⟨_, (sc rfl (sc rfl (sc rfl (sn _)))), ⟨(dec_t fun hh => g18p (congrArg NdP.name hh.1)).symm, H4⟩⟩
      | exact ⟨_, (sc rfl (sc rfl (sc rfl (sn _)))), ⟨(dec_t fun hh => g25p (congrArg NdP.tok hh.1)).symm, H4⟩⟩
   have g25p := of_nd_f g25
   refine wV (v_fb (o2 := 3) fa24_3 rfl rfl) ?_
   refine wO g25 ?_
   refine wV (v_load one22 rfl (H4.at (by repeat constructor) rfl)) ?_
   refine wO g25 ?_
   refine wV (v_len Try.underlying22 rfl) ?_
   refine wO g25 ?_
   refine wV (v_fb (o2 := 3) fa24_3 rfl rfl) ?_
   refine wO g25 ?_
   refine wV (v_load one22 rfl (H4.at (by repeat constructor) rfl)) ?_
   refine wO g25 ?_
   refine wV (v_len Try.underlying22 rfl) ?_
   refine wO g25 ?_
   refine wV (v_neq rfl rfl) ?_
   refine wV (v_pick_f rfl g25 rfl) ?_
   refine wl_nil ?_
   first
     | exact ⟨_, (sc rfl (sc rfl (sc rfl (sn _)))), ⟨dec_eq ⟨fun hd hh => (by have h_ := of_nd_t hd; have h2_ := hh.2; omega), fun hh => (by
         cases h_ : decide ((t.kids.length : Int) = u.kids.length)
         · rfl
         · exact absurd ⟨ndp_eq g11p g18p g25p, by have h2_ := oT h_; omega⟩ hh)⟩, H4⟩⟩
     | exact ⟨_, (sc rfl (sc rfl (sc rfl (sn _)))), ⟨(dec_t fun hh => g11p (congrArg NdP.kind hh.1)).symm, H4⟩⟩
     | exact ⟨_, (sc rfl (sc rfl (sc rfl (sn _)))), ⟨(dec_t fun hh => g18p (congrArg NdP.name hh.1)).symm, H4⟩⟩
     | exact ⟨_, (sc rfl (sc rfl (sc rfl (sn _)))), ⟨(dec_t fun hh => g25p (congrArg NdP.tok hh.1)).symm, H4⟩⟩
  rintro q Wm ⟨hq, H⟩
  refine wc_cond rfl (fun c0 => ?_) (fun c0 => ?_)
  ·refine wcR ?_
   refine wA ?_
   refine wl_nil ?_
   refine wc_ret ?_
   first
     | (have q_ := c2
        exact ⟨_, res1 rfl rfl, congrArg Value.bool (dec_f fun hh => of_ndec (of_n_t c2) (by rw [hh])).symm, H.pm (by repeat (first | exact Pm.nil _ | constructor))⟩)
     | (have q_ := c1p
        exact ⟨_, res1 rfl rfl, congrArg Value.bool (dec_t (nd_ext hx hlen fun j hj => ha j (by omega))).symm, H.pm (by repeat (first | exact Pm.nil _ | constructor))⟩)
     | exact ⟨_, res1 rfl rfl, congrArg Value.bool (dec_f fun hh => of_dec (hq.symm.trans c0) (by rw [hh]; exact ⟨rfl, rfl⟩)).symm, H.pm (by repeat (first | exact Pm.nil _ | constructor))⟩
  obtain ⟨hx, hlen⟩ := Classical.byContradiction (of_ndec (hq.symm.trans c0))
  refine wc_skip ?_
  refine wc_seq ?_
  refine wcR ?_
  refine wV (v_fb (o2 := 3) fa24_3 rfl rfl) ?_
  refine wV (v_load one22 rfl (H.at (by repeat constructor) rfl)) ?_
  refine wV (v_len Try.underlying22 rfl) ?_
  refine wM ?_
  refine wl_nil ?_
  refine wc_block ?_
  refine wc_loop (σ := Nat) (fun s => [(2, .pointer (some ⟨b2, 0, none⟩)), (3, .pointer (some ⟨b3, 0, none⟩)), (36, .int .i64 t.kids.length), (37, .int .i64 s)]) (fun s W => (s ≤ t.kids.length ∧ ∀ j, j < s → t.kids.getD j nd0 = u.kids.getD j nd0) ∧ Holds w [Blk b3 24 [.int .i64 u.x.kind, .string u.x.name, .int .i64 u.x.tok, .slice B u.kids.length k2], Blk b2 24 [.int .i64 t.x.kind, .string t.x.name, .int .i64 t.x.tok, .slice A t.kids.length k]] W) (fun s => t.kids.length - s) 0 (sc rfl (sc rfl (sc rfl (sc rfl (sn _))))) ⟨⟨Nat.zero_le _, upto_zero⟩, H⟩ ?_
  rintro i W0 ⟨⟨hi, ha⟩, H⟩
  refine wcR ?_
  refine wV (v_lss rfl rfl) ?_
  refine wl_nil ?_
  refine wc_seq ?_
  refine wc_cond rfl (fun c1 => ?_) (fun c1 => ?_)
  rotate_left
  ·have c1p := oF c1
   refine wc_exit ?_
   refine wcR ?_
   refine wA ?_
   refine wl_nil ?_
   refine wc_ret ?_
   first
     | (have q_ := c2
        exact ⟨_, res1 rfl rfl, congrArg Value.bool (dec_f fun hh => of_ndec (of_n_t c2) (by rw [hh])).symm, H.pm (by repeat (first | exact Pm.nil _ | constructor))⟩)
     | (have q_ := c1p
        exact ⟨_, res1 rfl rfl, congrArg Value.bool (dec_t (nd_ext hx hlen fun j hj => ha j (by omega))).symm, H.pm (by repeat (first | exact Pm.nil _ | constructor))⟩)
     | exact ⟨_, res1 rfl rfl, congrArg Value.bool (dec_f fun hh => of_dec (hq.symm.trans c0) (by rw [hh]; exact ⟨rfl, rfl⟩)).symm, H.pm (by repeat (first | exact Pm.nil _ | constructor))⟩
  have c1p := oT c1
  have hin : i < t.kids.length := by omega
  refine wc_skip ?_
  refine wc_seq ?_
  refine wc_block ?_
  refine wcR ?_
  refine wM ?_
  refine wA ?_
  refine wl_nil ?_
  refine wc_seq ?_
  refine wc_tree [0, 1, 2, 3, 4, 5, 6, 7, 8, 9] (fun W => Holds w [Blk b3 24 [.int .i64 u.x.kind, .string u.x.name, .int .i64 u.x.tok, .slice B u.kids.length k2], Blk b2 24 [.int .i64 t.x.kind, .string t.x.name, .int .i64 t.x.tok, .slice A t.kids.length k]] W) mixed ?_
  have Hd := H.drew
  have HSd : Holds w [Blk b3 24 [.int .i64 u.x.kind, .string u.x.name, .int .i64 u.x.tok, .slice B u.kids.length k2], Blk b2 24 [.int .i64 t.x.kind, .string t.x.name, .int .i64 t.x.tok, .slice A t.kids.length k]] _ := Hd.pm (by repeat constructor)
  refine wjV (k := 0) rfl HSd (fun W HW => v_fb (o2 := 3) fa24_3 rfl rfl) ?_
  refine wjV (k := 1) rfl HSd (fun W HW => v_load one22 rfl (HW.at (by repeat constructor) rfl)) ?_
  refine wjV (k := 2) rfl HSd (fun W HW => v_move rfl) ?_
  refine wjV (k := 3) rfl HSd (fun W HW => v_idx Try.underlying22 sz24 ht.ad rfl rfl (by omega) (by omega)) ?_
  obtain ⟨B44_, k44_, hc44_, hl44_, hr44_⟩ := ht.atTr nd0 (i := i) (by omega)
  refine wjV (k := 4) rfl HSd (fun W HW => v_loadN (cs := [.int .i64 (t.kids.getD i nd0).x.kind, .string (t.kids.getD i nd0).x.name, .int .i64 (t.kids.getD i nd0).x.tok, .slice B44_ (t.kids.getD i nd0).kids.length k44_]) agg24 rfl rfl (fun q_ u_ hu_ => HW.cell (hc44_ q_ u_ hu_))) ?_
  refine wjV (k := 5) rfl HSd (fun W HW => v_fb (o2 := 3) fa24_3 rfl rfl) ?_
  refine wjV (k := 6) rfl HSd (fun W HW => v_load one22 rfl (HW.at (by repeat constructor) rfl)) ?_
  refine wjV (k := 7) rfl HSd (fun W HW => v_move rfl) ?_
  refine wjV (k := 8) rfl HSd (fun W HW => v_idx Try.underlying22 sz24 hu.ad rfl rfl (by omega) (by omega)) ?_
  obtain ⟨B49_, k49_, hc49_, hl49_, hr49_⟩ := hu.atTr nd0 (i := i) (by omega)
  refine wjV (k := 9) rfl HSd (fun W HW => v_loadN (cs := [.int .i64 (u.kids.getD i nd0).x.kind, .string (u.kids.getD i nd0).x.name, .int .i64 (u.kids.getD i nd0).x.tok, .slice B49_ (u.kids.getD i nd0).kids.length k49_]) agg24 rfl rfl (fun q_ u_ hu_ => HW.cell (hc49_ q_ u_ hu_))) ?_
  refine wj_t (k := 10) rfl (by kernel_rfl) ?_
  refine wl_call en27 rfl rfl (ih _ (getD_mem (z := nd0) hin) _ _ _ _ _ _ (hr44_.below Hd.old) (hr49_.below Hd.old) (Tr.Alls_at nd0 hin hks)) ?_
  rintro _ w5 ⟨rfl, Hc⟩
  have H6 := Hd.call0 Hc
  refine wl_nil (tn ⟨fun hlt => absurd hlt (by rw [show allH _ _ _ = true by kernel_rfl]; simp), ?_⟩)
  refine wj_t (k := 11) rfl (by kernel_rfl) ?_
  refine wV (v_not rfl) ?_
  refine wl_nil (tn ⟨fun hlt => absurd hlt (by rw [show allH _ _ _ = true by kernel_rfl]; simp), ?_⟩)
  refine wj_done (by kernel_rfl) ?_
  refine wc_cond rfl (fun c2 => ?_) (fun c2 => ?_)
  rotate_left
  ·have c2p := of_n_f c2
   refine wc_skip ?_
   refine wc_region ?_
   refine wV (v_addi rfl rfl (by omega)) ?_
   refine wM ?_
   refine wl_nil ?_
   exact ⟨i + 1, (sc rfl (sc rfl (sc rfl (sc rfl (sn _))))), ⟨⟨by omega, upto_succ ha (of_dec (of_n_f c2))⟩, H6⟩, by omega⟩
  have c2p := of_n_t c2
  refine wcR ?_
  refine wA ?_
  refine wl_nil ?_
  refine wc_ret ?_
  first
    | (have q_ := c2
       exact ⟨_, res1 rfl rfl, congrArg Value.bool (dec_f fun hh => of_ndec (of_n_t c2) (by rw [hh])).symm, H6.pm (by repeat (first | exact Pm.nil _ | constructor))⟩)
    | (have q_ := c1p
       exact ⟨_, res1 rfl rfl, congrArg Value.bool (dec_t (nd_ext hx hlen fun j hj => ha j (by omega))).symm, H6.pm (by repeat (first | exact Pm.nil _ | constructor))⟩)
    | exact ⟨_, res1 rfl rfl, congrArg Value.bool (dec_f fun hh => of_dec (hq.symm.trans c0) (by rw [hh]; exact ⟨rfl, rfl⟩)).symm, H6.pm (by repeat (first | exact Pm.nil _ | constructor))⟩

theorem psame_calls : ∀ t : Nd, psameOk t := Tr.ind fun x kids ih => fun u w A B k k2 ht hu hf => psame_step (t := .mk x kids) ht hu hf ih
end Go.Proofs.Ytgdemplcpcacaaa.SameN

/-! What came in, as it reads. -/
namespace Go.Proofs.YtgdemplcpcacaaaFx
open Go Go.RowKit Go.ChangeShapes Go.WideShapes Go.ChangeAt Go.Deep
open Go.Proofs.Ytgdemplcpcacaaa (Rows.uptoBulk Rows.uptoBulkAll Rows.uptoSmall)
theorem bulk_one {H : Type} (d : DataW H) : 1 ≤ Rows.uptoBulk d := by
  cases d with
  | lit l => cases l <;> simp [Rows.uptoBulk]
  | nil => simp [Rows.uptoBulk]
  | ptr d => simp [Rows.uptoBulk]
  | slice elems spare => simp [Rows.uptoBulk]
  | agg parts => simp [Rows.uptoBulk]
  | iface t d => simp [Rows.uptoBulk]
  | map entries => simp [Rows.uptoBulk]
  | held h => simp [Rows.uptoBulk]
theorem bulk_part {H : Type} {d : DataW H} {l : List (DataW H)} (h : d ∈ l) : Rows.uptoBulk d ≤ Rows.uptoBulkAll l := by
  induction l with
  | nil => cases h
  | cons x r ih =>
    simp only [Rows.uptoBulkAll]
    cases List.mem_cons.1 h with
    | inl e => subst e; omega
    | inr e => have := ih e; omega
theorem bulk_len {H : Type} (l : List (DataW H)) : l.length ≤ Rows.uptoBulkAll l := by
  induction l with
  | nil => simp [Rows.uptoBulkAll]
  | cons x r ih => have := bulk_one x; simp only [Rows.uptoBulkAll, List.length_cons]; omega
/-- A kind of elements that a type reads as; B: what is so of an element of such a bulk. -/
structure Rds (P : Program) (t : TypeId) {α : Type} (K : Kn α) (B : α → Nat → Prop) : Prop where
  sz : P.cellsOf t = K.sz
  rd : ∀ {H : Type} {enc : TypeId × Value → H} {w : World} {base : Nat} {spare : Nat → Bool} {held : Bool} {fuel : Nat} {cs : List Value} {x : DataW H × List MemPlace}, DataW.trod enc P w base spare held fuel t cs = some x → ∃ a, K.K w a cs ∧ B a (Rows.uptoBulk x.1)
section
variable {P : Program} {t e : TypeId} {k : IntKind}
theorem rds_int (ht : P.underlying t = some (.int k)) (hc : P.cellsOf t = 1) : Rds P t (kInt k) (fun a n => (Lit.int k a).wf = true ∧ 1 ≤ n) := ⟨hc, fun h => by
  obtain ⟨n, rfl, rfl, hw⟩ := DataW.trod_int ht h
  exact ⟨n, rfl, hw, bulk_one _⟩⟩
theorem rds_str (ht : P.underlying t = some .string) (hc : P.cellsOf t = 1) : Rds P t kStr (fun a n => a.size + 1 ≤ n) := ⟨hc, fun h => by
  obtain ⟨s, rfl, rfl, hw⟩ := DataW.trod_string ht h
  refine ⟨s, rfl, ?_⟩
  simp only [Rows.uptoBulk, Array.length_toList]
  exact Nat.le_refl _⟩
theorem i64_wf {a : Int} (h : (Lit.int .i64 a).wf = true) : I64 a := by
  have e1 : (if IntKind.i64.signed = true then -(2 ^ (IntKind.i64.bits - 1) : Int) else 0) = -9223372036854775808 := rfl
  have h1 : -9223372036854775808 ≤ a ∧ a ≤ 9223372036854775807 := by simpa [Lit.wf, IntKind.min, e1] using h
  exact h1
theorem two_len {cs : List Value} (h : cs.length = 2) : ∃ a b, cs = [a, b] := by
  match cs, h with
  | [a, b], _ => exact ⟨a, b, rfl⟩
theorem rds_mv {f0 f1 : Field} (ht : P.underlying t = some (.struct #[f0, f1])) (he : P.underlying e = some (.int .i64)) (hc : P.cellsOf t = 2) (hce : P.cellsOf e = 1) (h0 : (f0.type, f0.offset) = (e, 0)) (h1 : (f1.type, f1.offset) = (e, 1)) : Rds P t fMv.kn (fun a n => (I64 a.d ∧ I64 a.n) ∧ 1 ≤ n) := ⟨hc, fun {H enc w base spare held fuel cs x} h => by
  simp only [Prod.mk.injEq] at h0 h1
  obtain ⟨y0, y1, n, rfl, hl, e0, e1⟩ := trod_struct2 ht h
  rw [h0.1, h0.2, hce] at e0
  rw [h1.1, h1.2, hce] at e1
  obtain ⟨a, ha, _, wa⟩ := DataW.trod_int he e0
  obtain ⟨b, hb, _, wb⟩ := DataW.trod_int he e1
  rw [hc] at hl
  obtain ⟨c0, c1, rfl⟩ := two_len hl
  · simp at ha hb
    subst ha hb
    exact ⟨⟨a, b⟩, rfl, ⟨i64_wf wa, i64_wf wb⟩, bulk_one _⟩⟩
theorem rds_sl {α : Type} {K : Kn α} {B : α → Nat → Prop} (ht : P.underlying t = some (.slice e)) (hc : P.cellsOf t = 1) (he : Rds P e K B) : Rds P t K.sl (fun xs n => xs.length + 1 ≤ n ∧ ∀ x ∈ xs, ∃ m, m ≤ n ∧ B x m) := ⟨hc, fun {H enc w base spare held fuel cs x} h => by
  rcases open_slice ht h with ⟨rfl, rfl⟩ | ⟨a, len, cap, m, n, D, Pl, rfl, _, hl, hm, hmm, rfl, hx⟩
  · exact ⟨[], ⟨none, 0, rfl, Nat.le_refl _, Rd.nil _ _ _⟩, by simp [Rows.uptoBulk], fun x hx => by simp at hx⟩
  · have hlm : len ≤ m := by rw [hmm]; split <;> omega
    have hex : ∀ i, i < len → ∃ a' : α, (∃ cs', w.cells? base (a.add (i * P.cellsOf e)) (P.cellsOf e) = some cs' ∧ K.K w a' cs') ∧ B a' (Rows.uptoBulk (D i)) := fun i hi => by
      obtain ⟨cs', h1, h2⟩ := hx i (by omega)
      obtain ⟨a', h3, h4⟩ := he.rd h2
      exact ⟨a', ⟨cs', h1, h3⟩, h4⟩
    refine ⟨List.ofFn fun i : Fin len => Classical.choose (hex i.1 i.2), ⟨some a, cap, by rw [List.length_ofFn], by rw [List.length_ofFn]; exact hl, fun _ => rfl, fun j y hy => ?_⟩, ?_, fun y hy => ?_⟩
    · rw [List.getElem?_ofFn] at hy
      split at hy
      · rename_i hj
        simp only [Option.some.injEq] at hy
        subst hy
        obtain ⟨⟨cs', h1, h2⟩, _⟩ := Classical.choose_spec (hex j hj)
        refine ⟨cs', h2, fun i u hu => ?_⟩
        obtain ⟨_, h5, h6⟩ := World.cells?_some h1
        have hi : i < P.cellsOf e := by rw [← h5]; exact (List.getElem?_eq_some_iff.1 hu).1
        have := h6 i hi
        rw [hu, add_add, he.sz] at this
        exact this
      · simp at hy
    · rw [List.length_ofFn]
      have h1 := bulk_len ((List.range len).map D)
      rw [List.length_map, List.length_range] at h1
      simp only [Rows.uptoBulk]
      omega
    · obtain ⟨i, hi⟩ := (List.mem_ofFn ..).1 hy
      subst hi
      refine ⟨Rows.uptoBulk (D i.1), ?_, (Classical.choose_spec (hex i.1 i.2)).2⟩
      have h1 := bulk_part (d := D i.1) (l := (List.range len).map D) (List.mem_map.2 ⟨i.1, List.mem_range.2 i.2, rfl⟩)
      simp only [Rows.uptoBulk]
      omega⟩
/-- A table. -/
def kTb : Kn Tb where
  sz := 2
  K := fun w t cs => ∃ A B ca cb, cs = [.slice A t.mv.length ca, .slice B t.go.length cb] ∧ t.rd w A B
  len := fun ⟨_, _, _, _, h, _⟩ => by rw [h]; rfl
  one := fun ⟨_, _, _, _, h, _⟩ u hu => by
    rw [h] at hu
    simp only [List.mem_cons, List.not_mem_nil, or_false] at hu
    rcases hu with rfl | rfl <;> rfl
  st := fun hb ⟨A, B, ca, cb, h, hr⟩ => ⟨A, B, ca, cb, h, hr.below hb⟩
theorem rds_tb {f0 f1 : Field} {t0 t1 : TypeId} (ht : P.underlying t = some (.struct #[f0, f1])) (hc : P.cellsOf t = 2) (h0 : (f0.type, f0.offset) = (t0, 0)) (h1 : (f1.type, f1.offset) = (t1, 1))
    {B0 B1 : _} (r0 : Rds P t0 fMv.kn.sl.sl B0) (r1 : Rds P t1 (kInt .i64).sl.sl B1) : Rds P t kTb (fun a n => ∃ n0 n1, n0 + n1 ≤ n ∧ B0 a.mv n0 ∧ B1 a.go n1) := ⟨hc, fun {H enc w base spare held fuel cs x} h => by
  simp only [Prod.mk.injEq] at h0 h1
  obtain ⟨y0, y1, n, rfl, hl, e0, e1⟩ := trod_struct2 ht h
  rw [h0.1, h0.2] at e0
  rw [h1.1, h1.2] at e1
  have s0 : P.cellsOf t0 = 1 := r0.sz
  have s1 : P.cellsOf t1 = 1 := r1.sz
  rw [s0] at e0
  rw [s1] at e1
  obtain ⟨mv, ⟨A, ca, ha, _, hra⟩, b0⟩ := r0.rd e0
  obtain ⟨go, ⟨B, cb, hb, _, hrb⟩, b1⟩ := r1.rd e1
  rw [hc] at hl
  obtain ⟨c0, c1, rfl⟩ := two_len hl
  · simp at ha hb
    subst ha hb
    exact ⟨⟨mv, go⟩, ⟨A, B, ca, cb, rfl, hra, hrb⟩, _, _, by simp only [Rows.uptoBulk, Rows.uptoBulkAll]; omega, b0, b1⟩⟩
def BRow (K : List Mv → Nat → Prop) : Prop := True
abbrev BMv (xs : List Mv) (n : Nat) : Prop := xs.length + 1 ≤ n ∧ ∀ x ∈ xs, ∃ m, m ≤ n ∧ (I64 x.d ∧ I64 x.n) ∧ 1 ≤ m
abbrev BInt (xs : List Int) (n : Nat) : Prop := xs.length + 1 ≤ n ∧ ∀ x ∈ xs, ∃ m, m ≤ n ∧ (Lit.int .i64 x).wf = true ∧ 1 ≤ m
theorem tb_ok {a : Tb} {n0 n1 : Nat} (h0 : a.mv.length + 1 ≤ n0 ∧ ∀ x ∈ a.mv, ∃ m, m ≤ n0 ∧ BMv x m) (h1 : a.go.length + 1 ≤ n1 ∧ ∀ x ∈ a.go, ∃ m, m ≤ n1 ∧ BInt x m) (hn : n0 + n1 ≤ 1048576) : a.ok :=
  ⟨by omega, by omega, fun r hr => by
    obtain ⟨m, hm, h2, h3⟩ := h0.2 r hr
    exact ⟨by omega, fun x hx => by obtain ⟨_, _, h4, _⟩ := h3 x hx; exact h4⟩, fun r hr => by
    obtain ⟨m, hm, h2, h3⟩ := h1.2 r hr
    exact ⟨by omega, fun x hx => by obtain ⟨_, _, h4, _⟩ := h3 x hx; exact i64_wf h4⟩⟩
end
end Go.Proofs.YtgdemplcpcacaaaFx

/-! Numbers, seven bits a byte: plain; bit operations and divisions. -/
namespace Go.Proofs.YtgdemplcpcacaaaFx
open Go Go.RowKit
section
variable {P : Program} {n : Nat} {l : Fr} {w : World} {x y : Operand} {ty t t2 : TypeId} {pos : String} {af : Array Edge} {gd : Option (Nat × Bool)} {dst : Option Tmp} {i j : Int} {k : IntKind}
theorem v_and (hx : ev l x = some (.int k i)) (hy : ev l y = some (.int k j)) : Vs P n l ⟨dst, .binOp .and t x y t2, ty, pos, af, gd⟩ w (.int k (bits .and k i j)) := fun a ha => by simp [execOp, ha.eval hx, ha.eval hy, eqGuard_at_int, binOp_and, intBits_and]
theorem v_or (hx : ev l x = some (.int k i)) (hy : ev l y = some (.int k j)) : Vs P n l ⟨dst, .binOp .or t x y t2, ty, pos, af, gd⟩ w (.int k (bits .or k i j)) := fun a ha => by simp [execOp, ha.eval hx, ha.eval hy, eqGuard_at_int, binOp_or, intBits_or]
theorem v_rem (hx : ev l x = some (.int k i)) (hy : ev l y = some (.int k j)) (h0 : j ≠ 0) : Vs P n l ⟨dst, .binOp .rem t x y t2, ty, pos, af, gd⟩ w (.int k (Int.tmod i j)) := fun a ha => by
  simp [execOp, ha.eval hx, ha.eval hy, eqGuard_at_int, binOp_rem, Op.intDiv, h0]
theorem v_quo (hx : ev l x = some (.int k i)) (hy : ev l y = some (.int k j)) (h0 : j ≠ 0) : Vs P n l ⟨dst, .binOp .quo t x y t2, ty, pos, af, gd⟩ w (.int k (k.wrap (Int.tdiv i j))) := fun a ha => by
  simp [execOp, ha.eval hx, ha.eval hy, eqGuard_at_int, binOp_quo, Op.intDiv, h0]
end
theorem or128 {a : Int} (h : 0 ≤ a ∧ a < 256) : bits .or .u8 a 128 = a % 128 + 128 := by
  obtain ⟨n, rfl⟩ := Int.eq_ofNat_of_zero_le h.1
  have hn : n < 256 := by omega
  have h1 := (bits_nat .u8 8 (by decide) wraps_u8 n 128 (by simpa using hn) (by decide)).2
  have h2 : ∀ n : Fin 256, (n.1 ||| 128) = n.1 % 128 + 128 := by decide +kernel
  have h3 := h2 ⟨n, hn⟩
  dsimp only at h3
  rw [show (128 : Int) = ((128 : Nat) : Int) from rfl, h1, h3]
  omega
theorem and127 {a : Int} (h : 0 ≤ a ∧ a < 256) : bits .and .u8 a 127 = a % 128 := bits_mask .u8 8 (by decide) wraps_u8 7 (by decide) a h.1 (by have := h.2; omega)
theorem wraps_i64 (n : Int) (h₀ : 0 ≤ n) (h₁ : n < 2 ^ 62) : IntKind.i64.wrap n = n := by rw [IntKind.wrap_i64]; omega
theorem or_low {a c s : Nat} (ha : a < 2 ^ s) (hc : c * 2 ^ s < 2 ^ 62) (ha2 : a < 2 ^ 62) : bits .or .i64 (a : Int) ((c * 2 ^ s : Nat) : Int) = ((a + c * 2 ^ s : Nat) : Int) := by
  rw [(bits_nat .i64 62 (by decide) wraps_i64 a (c * 2 ^ s) ha2 hc).2, Nat.or_comm, Nat.mul_comm c, ← Nat.two_pow_add_eq_or_of_lt ha, Nat.add_comm]
/-- A number's bytes. -/
def vint (n : Nat) : List Int := if n < 128 then [(n : Int)] else ((n % 128 + 128 : Nat) : Int) :: vint (n / 128)
termination_by n
theorem vint_lt {n : Nat} (h : n < 128) : vint n = [(n : Int)] := by rw [vint, if_pos h]
theorem vint_ge {n : Nat} (h : ¬ n < 128) : vint n = ((n % 128 + 128 : Nat) : Int) :: vint (n / 128) := by rw [vint, if_neg h]
theorem vint_len : ∀ (k n : Nat), n < 128 ^ k → 1 ≤ k → (vint n).length ≤ k
  | 0, _, _, h => by omega
  | k + 1, n, h, _ => by
    rcases Nat.lt_or_ge n 128 with h1 | h1
    · rw [vint_lt h1]; simp
    · rw [vint_ge (by omega), List.length_cons]
      rcases Nat.eq_zero_or_pos k with rfl | hk
      · simp at h; omega
      · have := vint_len k (n / 128) (by rw [Nat.pow_succ] at h; exact Nat.div_lt_of_lt_mul (by rw [Nat.mul_comm]; exact h)) hk
        omega
theorem vint_pos (n : Nat) : 1 ≤ (vint n).length := by
  rcases Nat.lt_or_ge n 128 with h1 | h1
  · rw [vint_lt h1]; simp
  · rw [vint_ge (by omega), List.length_cons]; omega
theorem vint_bytes : ∀ (n : Nat), ∀ x ∈ vint n, 0 ≤ x ∧ x < 256 := by
  intro n
  induction n using Nat.strongRecOn with
  | _ n ih =>
    intro x hx
    rcases Nat.lt_or_ge n 128 with h1 | h1
    · rw [vint_lt h1, List.mem_singleton] at hx; omega
    · rw [vint_ge (by omega)] at hx
      rcases List.mem_cons.1 hx with rfl | hx
      · omega
      · exact ih (n / 128) (by omega) x hx
/-- A number read: at most k bytes are left, acc is what was read, sh its bits. -/
def numG : Nat → Nat → Nat → List Int → Option (Nat × List Int)
  | 0, _, _, _ => none
  | _ + 1, _, _, [] => none
  | k + 1, acc, sh, c :: r =>
    if c < 128 then if (c = 0 ∧ 0 < sh) ∨ 2147483647 < acc + (c.toNat % 128) * 2 ^ sh then none else some (acc + (c.toNat % 128) * 2 ^ sh, r)
    else numG k (acc + (c.toNat % 128) * 2 ^ sh) (sh + 7) r
def num (bs : List Int) : Option (Nat × List Int) := numG 5 0 0 bs
def Bytes (bs : List Int) : Prop := ∀ x ∈ bs, 0 ≤ x ∧ x < 256
theorem numG_big : ∀ (k acc sh : Nat) (bs : List Int), 2147483647 < acc → numG k acc sh bs = none
  | 0, _, _, _, _ => rfl
  | _ + 1, _, _, [], _ => rfl
  | k + 1, acc, sh, c :: r, h => by
    unfold numG
    split
    · rw [if_pos (.inr (by omega))]
    · exact numG_big k _ _ r (by omega)
theorem numG_vint : ∀ (k acc sh m : Nat) (r : List Int), m < 128 ^ k → 1 ≤ k → acc + m * 2 ^ sh ≤ 2147483647 → (m ≠ 0 ∨ sh = 0) → numG k acc sh (vint m ++ r) = some (acc + m * 2 ^ sh, r)
  | 0, acc, sh, m, r, h, h0, h2, h3 => by omega
  | k + 1, acc, sh, m, r, h, h0, h2, h3 => by
    have hdiv : m / 128 < 128 ^ k := by rw [Nat.pow_succ] at h; exact Nat.div_lt_of_lt_mul (by rw [Nat.mul_comm]; exact h)
    rcases Nat.lt_or_ge m 128 with h1 | h1
    · rw [vint_lt h1]
      show numG (k + 1) acc sh ((m : Int) :: r) = _
      unfold numG
      rw [if_pos (by omega), Int.toNat_natCast, Nat.mod_eq_of_lt h1, if_neg (by omega)]
    · rw [vint_ge (by omega)]
      show numG (k + 1) acc sh (((m % 128 + 128 : Nat) : Int) :: (vint (m / 128) ++ r)) = _
      have e1 : (m % 128 + 128) % 128 = m % 128 := by omega
      have e2 : acc + m % 128 * 2 ^ sh + m / 128 * 2 ^ (sh + 7) = acc + m * 2 ^ sh := by
        have h5 : m / 128 * 2 ^ (sh + 7) = (m / 128 * 128) * 2 ^ sh := by rw [Nat.pow_add, Nat.mul_comm (2 ^ sh), ← Nat.mul_assoc]
        have h6 : m % 128 + m / 128 * 128 = m := Nat.mod_add_div' m 128
        rw [h5, Nat.add_assoc, ← Nat.add_mul, h6]
      unfold numG
      rw [if_neg (by omega), Int.toNat_natCast, e1]
      have := numG_vint k (acc + m % 128 * 2 ^ sh) (sh + 7) (m / 128) r hdiv (by
        rcases Nat.eq_zero_or_pos k with rfl | hk
        · simp at h; omega
        · exact hk) (by rw [e2]; exact h2) (.inl (by omega))
      rw [this, e2]
theorem numG_is : ∀ (k acc sh n : Nat) (bs r : List Int), Bytes bs → numG k acc sh bs = some (n, r) → ∃ m, bs = vint m ++ r ∧ n = acc + m * 2 ^ sh ∧ n ≤ 2147483647 ∧ (m ≠ 0 ∨ sh = 0)
  | 0, _, _, _, _, _, _, h => by simp [numG] at h
  | _ + 1, _, _, _, [], _, _, h => by simp [numG] at h
  | k + 1, acc, sh, n, c :: r0, r, hB, h => by
    have hc := hB c (List.mem_cons_self ..)
    unfold numG at h
    split at h
    · rename_i h1
      split at h
      · cases h
      · rename_i h2
        injection h with h
        injection h with h3 h4
        subst h4
        have e : c.toNat % 128 = c.toNat := by omega
        rw [e] at h2 h3
        refine ⟨c.toNat, ?_, h3.symm, by omega, by omega⟩
        rw [vint_lt (by omega)]
        show c :: r0 = (c.toNat : Int) :: r0
        rw [Int.toNat_of_nonneg hc.1]
    · rename_i h1
      obtain ⟨m, rfl, hn, hle, hm⟩ := numG_is k _ _ n r0 r (fun x hx => hB x (List.mem_cons_of_mem _ hx)) h
      have hm0 : m ≠ 0 := hm.resolve_right (by omega)
      have e0 : c.toNat % 128 = c.toNat - 128 := by omega
      refine ⟨(c.toNat - 128) + 128 * m, ?_, ?_, hle, .inl (by omega)⟩
      · rw [vint_ge (n := (c.toNat - 128) + 128 * m) (by omega)]
        have e1 : ((c.toNat - 128) + 128 * m) % 128 + 128 = c.toNat := by omega
        have e2 : ((c.toNat - 128) + 128 * m) / 128 = m := by omega
        rw [e1, e2, Int.toNat_of_nonneg hc.1]
        rfl
      · rw [hn, e0, Nat.add_assoc]
        congr 1
        rw [Nat.add_mul, Nat.pow_add]
        congr 1
        rw [Nat.mul_comm 128 m, Nat.mul_assoc, Nat.mul_comm 128]
theorem num_vint {n : Nat} (r : List Int) (h : n ≤ 2147483647) : num (vint n ++ r) = some (n, r) := by
  have := numG_vint 5 0 0 n r (by simp only [Nat.reducePow]; omega) (by decide) (by simpa using h) (.inr rfl)
  simpa [num] using this
theorem num_is {n : Nat} {bs r : List Int} (hB : Bytes bs) (h : num bs = some (n, r)) : bs = vint n ++ r ∧ n ≤ 2147483647 := by
  obtain ⟨m, h1, h2, h3, _⟩ := numG_is 5 0 0 n bs r hB h
  rw [Nat.pow_zero, Nat.mul_one, Nat.zero_add] at h2
  subst h2
  exact ⟨h1, h3⟩
end Go.Proofs.YtgdemplcpcacaaaFx

/-! A table's bytes: plain. -/
namespace Go.Proofs.YtgdemplcpcacaaaFx
open Go Go.RowKit
def okMv (m : Mv) : Prop := 0 ≤ m.d ∧ m.d ≤ 2147483647 ∧ 0 ≤ m.n ∧ m.n ≤ 2147483647
def okGo (x : Int) : Prop := -1 ≤ x ∧ x < 2147483647
def mvB (m : Mv) : List Int := vint m.d.toNat ++ vint m.n.toNat
def goB (x : Int) : List Int := vint (x + 1).toNat
def mvsB (ms : List Mv) : List Int := ms.flatMap mvB
def gosB (xs : List Int) : List Int := xs.flatMap goB
def rowB (t : Tb) (s : Nat) : List Int := mvsB (t.mv.getD s []) ++ gosB (t.go.getD s [])
def rowsB (t : Tb) (i : Nat) : List Int := (List.range i).flatMap (rowB t)
def headB (t : Tb) : List Int := vint t.mv.length ++ vint (t.mv.getD 0 []).length ++ vint (t.go.getD 0 []).length
def tbB (t : Tb) : List Int := headB t ++ rowsB t t.mv.length
def RowOk2 (t : Tb) (s : Nat) : Prop := (∀ m ∈ t.mv.getD s [], okMv m) ∧ ∀ x ∈ t.go.getD s [], okGo x
def ByOk (t : Tb) : Prop := Rect t ∧ ∀ s, s < t.mv.length → RowOk2 t s
noncomputable def bytesA (t : Tb) : List Int := if dec (ByOk t) then tbB t else []
noncomputable def bytesE (t : Tb) : Int := if dec (ByOk t) then 0 else 170
theorem by_t {t : Tb} (h : ByOk t) : bytesA t = tbB t ∧ bytesE t = 0 := by rw [bytesA, bytesE, dec_t h]; exact ⟨rfl, rfl⟩
theorem by_f {t : Tb} (h : ¬ ByOk t) : bytesA t = [] ∧ bytesE t = 170 := by rw [bytesA, bytesE, dec_f h]; exact ⟨rfl, rfl⟩
/-- A table of bulk at most the bound. -/
structure BSm (t : Tb) : Prop where
  ok : t.ok
  m : t.mv.length ≤ 1048576
  mr : ∀ r ∈ t.mv, r.length ≤ 1048576
  gr : ∀ r ∈ t.go, r.length ≤ 1048576
theorem BSm.ml {t : Tb} (h : BSm t) {i : Nat} (hi : i < t.mv.length) : (t.mv.getD i []).length ≤ 1048576 := h.mr _ (getD_mem hi)
theorem BSm.gl {t : Tb} (h : BSm t) {i : Nat} (hi : i < t.go.length) : (t.go.getD i []).length ≤ 1048576 := h.gr _ (getD_mem hi)
theorem vint5 {n : Nat} (h : n ≤ 2147483647) : (vint n).length ≤ 5 := vint_len 5 n (by simp only [Nat.reducePow]; omega) (by decide)
theorem mvsB_len {ms : List Mv} (h : ∀ m ∈ ms, okMv m) : (mvsB ms).length ≤ 10 * ms.length := by
  induction ms with
  | nil => simp [mvsB]
  | cons m r ih =>
    have h1 := ih fun x hx => h x (List.mem_cons_of_mem _ hx)
    obtain ⟨h2, h3, h4, h5⟩ := h m (List.mem_cons_self ..)
    have v1 := vint5 (n := m.d.toNat) (by omega)
    have v2 := vint5 (n := m.n.toNat) (by omega)
    show (mvB m ++ mvsB r).length ≤ _
    rw [List.length_append, mvB, List.length_append, List.length_cons]
    omega
theorem gosB_len {xs : List Int} (h : ∀ x ∈ xs, okGo x) : (gosB xs).length ≤ 5 * xs.length := by
  induction xs with
  | nil => simp [gosB]
  | cons m r ih =>
    have h1 := ih fun x hx => h x (List.mem_cons_of_mem _ hx)
    obtain ⟨h2, h3⟩ := h m (List.mem_cons_self ..)
    have v1 := vint5 (n := (m + 1).toNat) (by omega)
    show (goB m ++ gosB r).length ≤ _
    rw [List.length_append, goB, List.length_cons]
    omega
theorem rowsB_succ (t : Tb) (i : Nat) : rowsB t (i + 1) = rowsB t i ++ mvsB (t.mv.getD i []) ++ gosB (t.go.getD i []) := by
  rw [rowsB, List.range_succ, List.flatMap_append, List.append_assoc]
  simp [rowsB, rowB]
theorem rowsB_len {t : Tb} (hs : BSm t) (hg : t.go.length = t.mv.length) : ∀ i, i ≤ t.mv.length → (∀ s, s < i → RowOk2 t s) → (rowsB t i).length ≤ i * 15728640
  | 0, _, _ => by simp [rowsB]
  | i + 1, hi, h => by
    have h1 := rowsB_len hs hg i (by omega) fun s hs => h s (by omega)
    have h2 := mvsB_len (h i (by omega)).1
    have h3 := gosB_len (h i (by omega)).2
    have h4 := hs.ml (i := i) (by omega)
    have h5 := hs.gl (i := i) (by omega)
    rw [rowsB_succ, List.length_append, List.length_append]
    omega
theorem headB_len {t : Tb} (hs : BSm t) (hg : t.go.length = t.mv.length) (h0 : 0 < t.mv.length) : (headB t).length ≤ 15 := by
  have h1 := vint5 (n := t.mv.length) (by have := hs.m; omega)
  have h2 := vint5 (n := (t.mv.getD 0 []).length) (by have := hs.ml (i := 0) h0; omega)
  have h3 := vint5 (n := (t.go.getD 0 []).length) (by have := hs.gl (i := 0) (by omega); omega)
  rw [headB, List.length_append, List.length_append]
  omega
theorem mvsB_succ {ms : List Mv} {j : Nat} (h : j < ms.length) : mvsB (ms.take (j + 1)) = mvsB (ms.take j) ++ vint (ms.getD j mv0).d.toNat ++ vint (ms.getD j mv0).n.toNat := by
  rw [mvsB, take_succ' mv0 h, List.flatMap_append, List.append_assoc]
  simp [mvsB, mvB]
theorem gosB_succ {xs : List Int} {j : Nat} (h : j < xs.length) : gosB (xs.take (j + 1)) = gosB (xs.take j) ++ vint (xs.getD j 0 + 1).toNat := by
  rw [gosB, take_succ' 0 h, List.flatMap_append]
  simp [gosB, goB]
theorem take_ok {α : Type} {p : α → Prop} {xs : List α} {j : Nat} (z : α) (hj : j < xs.length) (h : ∀ x ∈ xs.take j, p x) (hx : p (xs.getD j z)) : ∀ x ∈ xs.take (j + 1), p x := fun x hxm => by
  rw [take_succ' z hj, List.mem_append, List.mem_singleton] at hxm
  rcases hxm with h1 | rfl
  · exact h x h1
  · exact hx
theorem out0 {t : Tb} (hs : BSm t) (hg : t.go.length = t.mv.length) (h0 : 0 < t.mv.length) {i : Nat} (hi : i ≤ t.mv.length) (h : ∀ s, s < i → RowOk2 t s) : (headB t ++ rowsB t i).length ≤ 20000000000000 := by
  have h1 := headB_len hs hg h0
  have h2 := rowsB_len hs hg i hi h
  have h3 := hs.m
  rw [List.length_append]
  omega
theorem out1 {t : Tb} (hs : BSm t) (hg : t.go.length = t.mv.length) {i j : Nat} (hi : i < t.mv.length) (h : ∀ s, s < i → RowOk2 t s) (hj : ∀ m ∈ (t.mv.getD i []).take j, okMv m) : (headB t ++ rowsB t i ++ mvsB ((t.mv.getD i []).take j)).length ≤ 30000000000000 := by
  have h1 := out0 hs hg (by omega) (Nat.le_of_lt hi) h
  have h2 := mvsB_len hj
  have h3 := hs.ml hi
  rw [List.length_take] at h2
  rw [List.length_append]
  omega
theorem out2 {t : Tb} (hs : BSm t) (hg : t.go.length = t.mv.length) {i j : Nat} (hi : i < t.mv.length) (h : ∀ s, s < i → RowOk2 t s) (hm : ∀ m ∈ t.mv.getD i [], okMv m) (hj : ∀ x ∈ (t.go.getD i []).take j, okGo x) : (headB t ++ rowsB t i ++ mvsB (t.mv.getD i []) ++ gosB ((t.go.getD i []).take j)).length ≤ 40000000000000 := by
  have h1 := out1 (j := (t.mv.getD i []).length) hs hg hi h (by rw [List.take_length]; exact hm)
  have h2 := gosB_len hj
  have h3 := hs.gl (i := i) (by omega)
  rw [List.take_length] at h1
  rw [List.length_take] at h2
  rw [List.length_append]
  omega
end Go.Proofs.YtgdemplcpcacaaaFx

/-! What came in, its rows' lengths together. -/
namespace Go.Proofs.YtgdemplcpcacaaaFx
open Go Go.RowKit Go.ChangeShapes Go.WideShapes Go.ChangeAt Go.Deep
open Go.Proofs.Ytgdemplcpcacaaa (Rows.uptoBulk Rows.uptoBulkAll Rows.uptoSmall)
theorem sum_le : ∀ {l1 l2 : List Nat}, l1.length = l2.length → (∀ j (h1 : j < l1.length) (h2 : j < l2.length), l1[j] ≤ l2[j]) → l1.sum ≤ l2.sum
  | [], [], _, _ => Nat.le_refl _
  | [], _ :: _, h, _ => by simp at h
  | _ :: _, [], h, _ => by simp at h
  | a :: l1, b :: l2, h, hj => by
    rw [List.sum_cons, List.sum_cons]
    have h0 := hj 0 (by simp) (by simp)
    have ih := sum_le (l1 := l1) (l2 := l2) (by simpa using h) fun j h1 h2 => by
      have := hj (j + 1) (by simp; exact h1) (by simp; exact h2)
      simpa using this
    simp only [List.getElem_cons_zero] at h0
    omega
theorem bulk_sum {H : Type} : ∀ l : List (DataW H), Rows.uptoBulkAll l = (l.map Rows.uptoBulk).sum
  | [] => rfl
  | x :: r => by rw [Rows.uptoBulkAll, bulk_sum r, List.map_cons, List.sum_cons]
section
variable {P : Program} {t e : TypeId}
theorem rds_slS {α : Type} {K : Kn α} {B : α → Nat → Prop} (μ : α → Nat) (hμ : ∀ a n, B a n → μ a ≤ n) (ht : P.underlying t = some (.slice e)) (hc : P.cellsOf t = 1) (he : Rds P e K B) : Rds P t K.sl (fun xs n => ((xs.map μ).sum + 1 ≤ n ∧ xs.length + 1 ≤ n) ∧ ∀ x ∈ xs, ∃ m, m ≤ n ∧ B x m) := ⟨hc, fun {H enc w base spare held fuel cs x} h => by
  rcases open_slice ht h with ⟨rfl, rfl⟩ | ⟨a, len, cap, m, n, D, Pl, rfl, _, hl, hm, hmm, rfl, hx⟩
  · exact ⟨[], ⟨none, 0, rfl, Nat.le_refl _, Rd.nil _ _ _⟩, by simp [Rows.uptoBulk], fun x hx => by simp at hx⟩
  · have hlm : len ≤ m := by rw [hmm]; split <;> omega
    have hex : ∀ i, i < len → ∃ a' : α, (∃ cs', w.cells? base (a.add (i * P.cellsOf e)) (P.cellsOf e) = some cs' ∧ K.K w a' cs') ∧ B a' (Rows.uptoBulk (D i)) := fun i hi => by
      obtain ⟨cs', h1, h2⟩ := hx i (by omega)
      obtain ⟨a', h3, h4⟩ := he.rd h2
      exact ⟨a', ⟨cs', h1, h3⟩, h4⟩
    refine ⟨List.ofFn fun i : Fin len => Classical.choose (hex i.1 i.2), ⟨some a, cap, by rw [List.length_ofFn], by rw [List.length_ofFn]; exact hl, fun _ => rfl, fun j y hy => ?_⟩, ⟨?_, ?_⟩, fun y hy => ?_⟩
    · rw [List.getElem?_ofFn] at hy
      split at hy
      · rename_i hj
        simp only [Option.some.injEq] at hy
        subst hy
        obtain ⟨⟨cs', h1, h2⟩, _⟩ := Classical.choose_spec (hex j hj)
        refine ⟨cs', h2, fun i u hu => ?_⟩
        obtain ⟨_, h5, h6⟩ := World.cells?_some h1
        have hi : i < P.cellsOf e := by rw [← h5]; exact (List.getElem?_eq_some_iff.1 hu).1
        have := h6 i hi
        rw [hu, add_add, he.sz] at this
        exact this
      · simp at hy
    · have h1 : ((List.ofFn fun i : Fin len => Classical.choose (hex i.1 i.2)).map μ).sum ≤ (((List.range len).map D).map Rows.uptoBulk).sum := sum_le (by simp) fun j h1 h2 => by
        simp only [List.getElem_map, List.getElem_ofFn, List.getElem_range]
        have hj : j < len := by simpa using h1
        exact hμ _ _ (Classical.choose_spec (hex j hj)).2
      rw [← bulk_sum] at h1
      simp only [Rows.uptoBulk]
      omega
    · rw [List.length_ofFn]
      have h1 := bulk_len ((List.range len).map D)
      rw [List.length_map, List.length_range] at h1
      simp only [Rows.uptoBulk]
      omega
    · obtain ⟨i, hi⟩ := (List.mem_ofFn ..).1 hy
      subst hi
      refine ⟨Rows.uptoBulk (D i.1), ?_, (Classical.choose_spec (hex i.1 i.2)).2⟩
      have h1 := bulk_part (d := D i.1) (l := (List.range len).map D) (List.mem_map.2 ⟨i.1, List.mem_range.2 i.2, rfl⟩)
      simp only [Rows.uptoBulk]
      omega⟩
end
/-- So many elements in all rows. -/
def rowsN {α : Type} (xs : List (List α)) : Nat := (xs.map fun r => r.length + 1).sum
theorem rowsN_succ {α : Type} {xs : List (List α)} {i : Nat} (h : i < xs.length) : rowsN (xs.take (i + 1)) = rowsN (xs.take i) + ((xs.getD i []).length + 1) := by
  rw [rowsN, take_succ' [] h, List.map_append, List.sum_append]
  simp [rowsN]
theorem rowsB_len2 {t : Tb} (hg : t.go.length = t.mv.length) : ∀ i, i ≤ t.mv.length → (∀ s, s < i → RowOk2 t s) → (rowsB t i).length ≤ 10 * rowsN (t.mv.take i) + 5 * rowsN (t.go.take i)
  | 0, _, _ => by simp [rowsB]
  | i + 1, hi, h => by
    have h1 := rowsB_len2 hg i (by omega) fun s hs => h s (by omega)
    have h2 := mvsB_len (h i (by omega)).1
    have h3 := gosB_len (h i (by omega)).2
    rw [rowsB_succ, List.length_append, List.length_append, rowsN_succ (by omega), rowsN_succ (by omega)]
    omega
theorem tbB_len {t : Tb} (hb : BSm t) (h : ByOk t) (h1 : rowsN t.mv ≤ 1048576) (h2 : rowsN t.go ≤ 1048576) : (tbB t).length ≤ 549755813888 := by
  obtain ⟨⟨r1, r2, r3, r4⟩, hok⟩ := h
  have h3 := headB_len hb r3 r1
  have h4 := rowsB_len2 r3 t.mv.length (Nat.le_refl _) hok
  rw [List.take_length, show t.go.take t.mv.length = t.go by rw [← r3, List.take_length]] at h4
  rw [tbB, List.length_append]
  omega
end Go.Proofs.YtgdemplcpcacaaaFx

/-! Grammars that came in, as they read. -/
namespace Go.Proofs.YtgdemplcpcacaaaFx
open Go Go.RowKit Go.ChangeShapes Go.WideShapes Go.ChangeAt Go.Deep
open Go.Proofs.Ytgdemplcpcacaaa (Rows.uptoBulk Rows.uptoBulkAll Rows.uptoSmall)
/-- Read where the bulk is at most N. -/
structure RdsN (P : Program) (t : TypeId) {α : Type} (K : Kn α) (B : α → Nat → Prop) (N : Nat) : Prop where
  sz : P.cellsOf t = K.sz
  rd : ∀ {H : Type} {enc : TypeId × Value → H} {w : World} {base : Nat} {spare : Nat → Bool} {held : Bool} {fuel : Nat} {cs : List Value} {x : DataW H × List MemPlace}, DataW.trod enc P w base spare held fuel t cs = some x → Rows.uptoBulk x.1 ≤ N → ∃ a, K.K w a cs ∧ B a (Rows.uptoBulk x.1)
section
variable {P : Program} {t e : TypeId}
theorem Rds.n {α : Type} {K : Kn α} {B : α → Nat → Prop} (h : Rds P t K B) (N : Nat) : RdsN P t K B N := ⟨h.sz, fun hx _ => h.rd hx⟩
theorem rdsN_sl {α : Type} {K : Kn α} {B : α → Nat → Prop} {N : Nat} (μ : α → Nat) (hμ : ∀ a n, B a n → μ a ≤ n) (ht : P.underlying t = some (.slice e)) (hc : P.cellsOf t = 1) (he : RdsN P e K B N) : RdsN P t K.sl (fun xs n => ((xs.map μ).sum + 1 ≤ n ∧ xs.length + 1 ≤ n) ∧ ∀ x ∈ xs, ∃ m, m ≤ n ∧ B x m) (N + 1) := ⟨hc, fun {H enc w base spare held fuel cs x} h hN => by
  rcases open_slice ht h with ⟨rfl, rfl⟩ | ⟨a, len, cap, m, n, D, Pl, rfl, _, hl, hm, hmm, rfl, hx⟩
  · exact ⟨[], ⟨none, 0, rfl, Nat.le_refl _, Rd.nil _ _ _⟩, by simp [Rows.uptoBulk], fun x hx => by simp at hx⟩
  · have hlm : len ≤ m := by rw [hmm]; split <;> omega
    have hDi : ∀ i, i < len → Rows.uptoBulk (D i) ≤ N := fun i hi => by
      have h1 := bulk_part (d := D i) (l := (List.range len).map D) (List.mem_map.2 ⟨i, List.mem_range.2 hi, rfl⟩)
      simp only [Rows.uptoBulk] at hN
      omega
    have hex : ∀ i, i < len → ∃ a' : α, (∃ cs', w.cells? base (a.add (i * P.cellsOf e)) (P.cellsOf e) = some cs' ∧ K.K w a' cs') ∧ B a' (Rows.uptoBulk (D i)) := fun i hi => by
      obtain ⟨cs', h1, h2⟩ := hx i (by omega)
      obtain ⟨a', h3, h4⟩ := he.rd h2 (hDi i hi)
      exact ⟨a', ⟨cs', h1, h3⟩, h4⟩
    refine ⟨List.ofFn fun i : Fin len => Classical.choose (hex i.1 i.2), ⟨some a, cap, by rw [List.length_ofFn], by rw [List.length_ofFn]; exact hl, fun _ => rfl, fun j y hy => ?_⟩, ⟨?_, ?_⟩, fun y hy => ?_⟩
    · rw [List.getElem?_ofFn] at hy
      split at hy
      · rename_i hj
        simp only [Option.some.injEq] at hy
        subst hy
        obtain ⟨⟨cs', h1, h2⟩, _⟩ := Classical.choose_spec (hex j hj)
        refine ⟨cs', h2, fun i u hu => ?_⟩
        obtain ⟨_, h5, h6⟩ := World.cells?_some h1
        have hi : i < P.cellsOf e := by rw [← h5]; exact (List.getElem?_eq_some_iff.1 hu).1
        have := h6 i hi
        rw [hu, add_add, he.sz] at this
        exact this
      · simp at hy
    · have h1 : ((List.ofFn fun i : Fin len => Classical.choose (hex i.1 i.2)).map μ).sum ≤ (((List.range len).map D).map Rows.uptoBulk).sum := sum_le (by simp) fun j h1 h2 => by
        simp only [List.getElem_map, List.getElem_ofFn, List.getElem_range]
        have hj : j < len := by simpa using h1
        exact hμ _ _ (Classical.choose_spec (hex j hj)).2
      rw [← bulk_sum] at h1
      simp only [Rows.uptoBulk]
      omega
    · rw [List.length_ofFn]
      have h1 := bulk_len ((List.range len).map D)
      rw [List.length_map, List.length_range] at h1
      simp only [Rows.uptoBulk]
      omega
    · obtain ⟨i, hi⟩ := (List.mem_ofFn ..).1 hy
      subst hi
      refine ⟨Rows.uptoBulk (D i.1), ?_, (Classical.choose_spec (hex i.1 i.2)).2⟩
      have h1 := bulk_part (d := D i.1) (l := (List.range len).map D) (List.mem_map.2 ⟨i.1, List.mem_range.2 i.2, rfl⟩)
      simp only [Rows.uptoBulk]
      omega⟩
/-- A struct's fields. -/
theorem fields_of {H : Type} {enc : TypeId × Value → H} {w : World} {base : Nat} {spare : Nat → Bool} {held : Bool} {fuel : Nat} {cs : List Value} {x : DataW H × List MemPlace} {fs : Array Field} (ht : P.underlying t = some (.struct fs)) (h : DataW.trod enc P w base spare held fuel t cs = some x) :
    ∃ (xs : List (DataW H × List MemPlace)) (n : Nat), Rows.uptoBulk x.1 = Rows.uptoBulkAll (xs.map (·.1)) + 1 ∧ cs.length = P.cellsOf t ∧ xs.length = fs.size ∧ ∀ (i : Nat) (f : Field), fs[i]? = some f → ∃ y, xs[i]? = some y ∧ DataW.trod enc P w base spare held n f.type ((cs.drop f.offset).take (P.cellsOf f.type)) = some y := by
  obtain ⟨xs, n, _, rfl, hl, hlen, hf⟩ := DataW.trod_struct ht h
  refine ⟨xs, n, rfl, hl, hlen, fun i f hif => ?_⟩
  have hi : i < xs.length := by rw [hlen]; exact (Array.getElem?_eq_some_iff.1 hif).1
  have := hf i f hif
  rw [List.getElem?_eq_getElem hi] at this
  exact ⟨_, List.getElem?_eq_getElem hi, this⟩
end
theorem cnts_sum {α : Type} : ∀ ts : List (Tr α), Tr.cnts ts = (ts.map Tr.cnt).sum
  | [] => rfl
  | t :: r => by rw [Tr.cnts, cnts_sum r, List.map_cons, List.sum_cons]
theorem four_len {cs : List Value} (h : cs.length = 4) : ∃ a b c d, cs = [a, b, c, d] := by
  match cs, h with
  | [a, b, c, d], _ => exact ⟨a, b, c, d, rfl⟩
theorem five_len {cs : List Value} (h : cs.length = 5) : ∃ a b c d e, cs = [a, b, c, d, e] := by
  match cs, h with
  | [a, b, c, d, e], _ => exact ⟨a, b, c, d, e, rfl⟩
theorem seven_len {cs : List Value} (h : cs.length = 7) : ∃ a b c d e f g, cs = [a, b, c, d, e, f, g] := by
  match cs, h with
  | [a, b, c, d, e, f, g], _ => exact ⟨a, b, c, d, e, f, g, rfl⟩
theorem part_le {H : Type} {xs : List (DataW H × List MemPlace)} {i : Nat} {y : DataW H × List MemPlace} (h : xs[i]? = some y) : Rows.uptoBulk y.1 ≤ Rows.uptoBulkAll (xs.map (·.1)) :=
  bulk_part (List.mem_map.2 ⟨y, List.mem_of_getElem? h, rfl⟩)
section
variable {P : Program} {ti tz ta ts tr tp tk tc tq tg : TypeId}
/-- The types of a grammar's parts: int, string, action, actions, numbers, production, texts, levels, productions, grammar. -/
structure GTypes (P : Program) (ti tz ta ts tr tp : TypeId) : Prop where
  i : Rds P ti (kInt .i64) (fun a n => (Lit.int .i64 a).wf = true ∧ 1 ≤ n)
  z : Rds P tz kStr (fun a n => a.size + 1 ≤ n)
  a : ∃ f0 f1 f2 f3 : Field, P.underlying ta = some (.struct #[f0, f1, f2, f3]) ∧ (f0.type, f0.offset) = (ti, 0) ∧ (f1.type, f1.offset) = (ti, 1) ∧ (f2.type, f2.offset) = (tz, 2) ∧ (f3.type, f3.offset) = (ts, 3)
  ca : P.cellsOf ta = 4
  s : P.underlying ts = some (.slice ta)
  cs : P.cellsOf ts = 1
  r : Rds P tr (kInt .i64).sl (fun xs n => xs.length + 1 ≤ n ∧ ∀ x ∈ xs, ∃ m, m ≤ n ∧ (Lit.int .i64 x).wf = true ∧ 1 ≤ m)
  p : ∃ f0 f1 f2 f3 : Field, P.underlying tp = some (.struct #[f0, f1, f2, f3]) ∧ (f0.type, f0.offset) = (ti, 0) ∧ (f1.type, f1.offset) = (tr, 1) ∧ (f2.type, f2.offset) = (ti, 2) ∧ (f3.type, f3.offset) = (ta, 3)
  cp : P.cellsOf tp = 7
theorem rdsN_tr (T : GTypes P ti tz ta ts tr tp) : ∀ N, RdsN P ta (kTr fAc) (fun a n => a.cnt ≤ n) N := fun N => by
  induction N using Nat.strongRecOn with
  | ind N ih =>
    refine ⟨T.ca, fun {H enc w base spare held fuel cs x} h hN => ?_⟩
    obtain ⟨f0, f1, f2, f3, hu, h0, h1, h2, h3⟩ := T.a
    simp only [Prod.mk.injEq] at h0 h1 h2 h3
    obtain ⟨xs, n, hb, hl, hlen, hf⟩ := fields_of hu h
    rw [T.ca] at hl
    obtain ⟨c0, c1, c2, c3, rfl⟩ := four_len hl
    obtain ⟨y0, i0, e0⟩ := hf 0 f0 rfl
    obtain ⟨y1, i1, e1⟩ := hf 1 f1 rfl
    obtain ⟨y2, i2, e2⟩ := hf 2 f2 rfl
    obtain ⟨y3, i3, e3⟩ := hf 3 f3 rfl
    have s1 : P.cellsOf ti = 1 := T.i.sz
    have s2 : P.cellsOf tz = 1 := T.z.sz
    rw [h0.1, h0.2, s1] at e0
    rw [h1.1, h1.2, s1] at e1
    rw [h2.1, h2.2, s2] at e2
    rw [h3.1, h3.2, T.cs] at e3
    obtain ⟨a0, k0, _⟩ := T.i.rd e0
    obtain ⟨a1, k1, _⟩ := T.i.rd e1
    obtain ⟨a2, k2, _⟩ := T.z.rd e2
    have p3 := part_le i3
    have q3 := bulk_one y3.1
    obtain ⟨M, hM⟩ : ∃ M, Rows.uptoBulk y3.1 = M + 1 := ⟨Rows.uptoBulk y3.1 - 1, by omega⟩
    obtain ⟨kids, ⟨A, c, hc, hle, hr⟩, ⟨hsum, _⟩, _⟩ := (rdsN_sl Tr.cnt (fun a n h => h) T.s T.cs (ih M (by omega))).rd e3 (by omega)
    have g0 : [c0] = [Value.int .i64 a0] := k0
    have g1 : [c1] = [Value.int .i64 a1] := k1
    have g2 : [c2] = [Value.string a2] := k2
    have g3 : [c3] = [Value.slice A kids.length c] := hc
    simp only [List.cons.injEq, and_true] at g0 g1 g2 g3
    subst g0 g1 g2 g3
    refine ⟨.mk ⟨a0, a1, a2⟩ kids, Tr.K.mk (f := fAc) (x := ⟨a0, a1, a2⟩) hle hr, ?_⟩
    rw [Tr.cnt, cnts_sum]
    omega
theorem rdsN_pr (T : GTypes P ti tz ta ts tr tp) (N : Nat) : RdsN P tp kPr (fun p n => p.right.length ≤ n ∧ p.act.cnt ≤ n) N := ⟨T.cp, fun {H enc w base spare held fuel cs x} h hN => by
  obtain ⟨f0, f1, f2, f3, hu, h0, h1, h2, h3⟩ := T.p
  simp only [Prod.mk.injEq] at h0 h1 h2 h3
  obtain ⟨xs, n, hb, hl, hlen, hf⟩ := fields_of hu h
  rw [T.cp] at hl
  obtain ⟨c0, c1, c2, c3, c4, c5, c6, rfl⟩ := seven_len hl
  obtain ⟨y0, i0, e0⟩ := hf 0 f0 rfl
  obtain ⟨y1, i1, e1⟩ := hf 1 f1 rfl
  obtain ⟨y2, i2, e2⟩ := hf 2 f2 rfl
  obtain ⟨y3, i3, e3⟩ := hf 3 f3 rfl
  have s1 : P.cellsOf ti = 1 := T.i.sz
  have s2 : P.cellsOf tr = 1 := T.r.sz
  rw [h0.1, h0.2, s1] at e0
  rw [h1.1, h1.2, s2] at e1
  rw [h2.1, h2.2, s1] at e2
  rw [h3.1, h3.2, T.ca] at e3
  have p1 := part_le i1
  have p3 := part_le i3
  obtain ⟨a0, k0, _⟩ := T.i.rd e0
  obtain ⟨a1, ⟨A, c, hc, hle, hr⟩, b1, _⟩ := T.r.rd e1
  obtain ⟨a2, k2, _⟩ := T.i.rd e2
  obtain ⟨a3, k3, b3⟩ := (rdsN_tr T (Rows.uptoBulk y3.1)).rd e3 (Nat.le_refl _)
  obtain ⟨B, k, hB, hBl, hBr⟩ := Tr.K.open k3
  have g0 : [c0] = [Value.int .i64 a0] := k0
  have g1 : [c1] = [Value.slice A a1.length c] := hc
  have g2 : [c2] = [Value.int .i64 a2] := k2
  have g3 : [c3, c4, c5, c6] = [Value.int .i64 a3.x.kind, .int .i64 a3.x.at_, .string a3.x.name, .slice B a3.kids.length k] := hB
  simp only [List.cons.injEq, and_true] at g0 g1 g2 g3
  obtain ⟨r1, r2, r3, r4⟩ := g3
  subst g0 g1 g2 r1 r2 r3 r4
  exact ⟨⟨a0, a1, a2, a3⟩, ⟨A, c, B, k, rfl, ⟨hle, hBl⟩, hr, hBr⟩, by dsimp only; omega, by dsimp only; omega⟩⟩
/-- A grammar: its row of productions, its texts, its levels. -/
structure GTypes2 (P : Program) (ti tp tk tc tq tg : TypeId) : Prop where
  k : Rds P tk kStr.sl (fun xs n => xs.length + 1 ≤ n ∧ ∀ x ∈ xs, ∃ m, m ≤ n ∧ x.size + 1 ≤ m)
  c : Rds P tc fMv.kn.sl (fun xs n => xs.length + 1 ≤ n ∧ ∀ x ∈ xs, ∃ m, m ≤ n ∧ (I64 x.d ∧ I64 x.n) ∧ 1 ≤ m)
  q : P.underlying tq = some (.slice tp)
  cq : P.cellsOf tq = 1
  g : ∃ f0 f1 f2 f3 f4 : Field, P.underlying tg = some (.struct #[f0, f1, f2, f3, f4]) ∧ (f0.type, f0.offset) = (tk, 0) ∧ (f1.type, f1.offset) = (tc, 1) ∧ (f2.type, f2.offset) = (tk, 2) ∧ (f3.type, f3.offset) = (tq, 3) ∧ (f4.type, f4.offset) = (ti, 4)
  cg : P.cellsOf tg = 5
theorem rd_pl (T : GTypes P ti tz ta ts tr tp) (T2 : GTypes2 P ti tp tk tc tq tg) {H : Type} {enc : TypeId × Value → H} {w : World} {base : Nat} {spare : Nat → Bool} {held : Bool} {fuel : Nat} {cs : List Value} {x : DataW H × List MemPlace} (h : DataW.trod enc P w base spare held fuel tg cs = some x) (hN : Rows.uptoBulk x.1 ≤ 1048576) :
    ∃ (g : Pl) (a : PlA), cs = g.cs a ∧ g.rd w a ∧ g.ok ∧ (g.kinds.length ≤ a.ck ∧ g.precs.length ≤ a.cp ∧ g.rules.length ≤ a.cr ∧ g.prods.length ≤ a.cq) ∧ I64 g.start ∧ (g.prods.length + 1 ≤ Rows.uptoBulk x.1) := by
  obtain ⟨f0, f1, f2, f3, f4, hu, h0, h1, h2, h3, h4⟩ := T2.g
  simp only [Prod.mk.injEq] at h0 h1 h2 h3 h4
  obtain ⟨xs, n, hb, hl, hlen, hf⟩ := fields_of hu h
  rw [T2.cg] at hl
  obtain ⟨c0, c1, c2, c3, c4, rfl⟩ := five_len hl
  obtain ⟨y0, i0, e0⟩ := hf 0 f0 rfl
  obtain ⟨y1, i1, e1⟩ := hf 1 f1 rfl
  obtain ⟨y2, i2, e2⟩ := hf 2 f2 rfl
  obtain ⟨y3, i3, e3⟩ := hf 3 f3 rfl
  obtain ⟨y4, i4, e4⟩ := hf 4 f4 rfl
  have s1 : P.cellsOf tk = 1 := T2.k.sz
  have s2 : P.cellsOf tc = 1 := T2.c.sz
  have s3 : P.cellsOf ti = 1 := T.i.sz
  rw [h0.1, h0.2, s1] at e0
  rw [h1.1, h1.2, s2] at e1
  rw [h2.1, h2.2, s1] at e2
  rw [h3.1, h3.2, T2.cq] at e3
  rw [h4.1, h4.2, s3] at e4
  have p0 := part_le i0
  have p1 := part_le i1
  have p2 := part_le i2
  have p3 := part_le i3
  have q3 := bulk_one y3.1
  obtain ⟨M, hM⟩ : ∃ M, Rows.uptoBulk y3.1 = M + 1 := ⟨Rows.uptoBulk y3.1 - 1, by omega⟩
  obtain ⟨a0, ⟨A0, z0, k0, l0, r0⟩, b0, d0⟩ := T2.k.rd e0
  obtain ⟨a1, ⟨A1, z1, k1, l1, r1⟩, b1, d1⟩ := T2.c.rd e1
  obtain ⟨a2, ⟨A2, z2, k2, l2, r2⟩, b2, d2⟩ := T2.k.rd e2
  obtain ⟨a3, ⟨A3, z3, k3, l3, r3⟩, ⟨_, b3⟩, d3⟩ := (rdsN_sl (fun p : Pr => 0) (fun a n h => Nat.zero_le _) T2.q T2.cq (rdsN_pr T M)).rd e3 (by omega)
  obtain ⟨a4, k4, b4, _⟩ := T.i.rd e4
  have g0 : [c0] = [Value.slice A0 a0.length z0] := k0
  have g1 : [c1] = [Value.slice A1 a1.length z1] := k1
  have g2 : [c2] = [Value.slice A2 a2.length z2] := k2
  have g3 : [c3] = [Value.slice A3 a3.length z3] := k3
  have g4 : [c4] = [Value.int .i64 a4] := k4
  simp only [List.cons.injEq, and_true] at g0 g1 g2 g3 g4
  subst g0 g1 g2 g3 g4
  refine ⟨⟨a0, a1, a2, a3, a4⟩, ⟨A0, z0, A1, z1, A2, z2, A3, z3⟩, rfl, ⟨r0, r1, r2, r3⟩, ⟨?_, ?_, ?_, ?_, ?_, ?_, ?_, ?_⟩, ⟨l0, l1, l2, l3⟩, i64_wf b4, by dsimp only; omega⟩
  · dsimp only; omega
  · intro s hs
    obtain ⟨m, m1, m2⟩ := d0 s hs
    omega
  · dsimp only; omega
  · dsimp only; omega
  · intro s hs
    obtain ⟨m, m1, m2⟩ := d2 s hs
    omega
  · dsimp only; omega
  · intro p hp
    obtain ⟨m, m1, m2, m3⟩ := d3 p hp
    omega
  · intro p hp
    obtain ⟨m, m1, m2, m3⟩ := d3 p hp
    omega
end
end Go.Proofs.YtgdemplcpcacaaaFx

/-! Derivations, nodes and data that came in, as they read. -/
namespace Go.Proofs.YtgdemplcpcacaaaFx
open Go Go.RowKit Go.ChangeShapes Go.WideShapes Go.ChangeAt Go.Deep
open Go.Proofs.Ytgdemplcpcacaaa (Rows.uptoBulk Rows.uptoBulkAll Rows.uptoSmall)
theorem three_len {cs : List Value} (h : cs.length = 3) : ∃ a b c, cs = [a, b, c] := by
  match cs, h with
  | [a, b, c], _ => exact ⟨a, b, c, rfl⟩
section
variable {P : Program} {ti tz ta ts td tc tcs tds tzs tg tw tr tt : TypeId} {N : Nat}
abbrev RInt (P : Program) (ti : TypeId) : Prop := Rds P ti (kInt .i64) (fun a n => (Lit.int .i64 a).wf = true ∧ 1 ≤ n)
abbrev RStr (P : Program) (tz : TypeId) : Prop := Rds P tz kStr (fun a n => a.size + 1 ≤ n)
/-- Derivations. -/
structure DvTypes (P : Program) (ti ta ts : TypeId) : Prop where
  i : RInt P ti
  a : ∃ f0 f1 f2 : Field, P.underlying ta = some (.struct #[f0, f1, f2]) ∧ (f0.type, f0.offset) = (ti, 0) ∧ (f1.type, f1.offset) = (ti, 1) ∧ (f2.type, f2.offset) = (ts, 2)
  ca : P.cellsOf ta = 3
  s : P.underlying ts = some (.slice ta)
  cs : P.cellsOf ts = 1
theorem rdsN_dv (T : DvTypes P ti ta ts) : ∀ N, RdsN P ta (kTr fDv) (fun a n => a.cnt ≤ n) N := fun N => by
  induction N using Nat.strongRecOn with
  | ind N ih =>
    refine ⟨T.ca, fun {H enc w base spare held fuel cs x} h hN => ?_⟩
    obtain ⟨f0, f1, f2, hu, h0, h1, h2⟩ := T.a
    simp only [Prod.mk.injEq] at h0 h1 h2
    obtain ⟨xs, n, hb, hl, hlen, hf⟩ := fields_of hu h
    rw [T.ca] at hl
    obtain ⟨c0, c1, c2, rfl⟩ := three_len hl
    obtain ⟨y0, i0, e0⟩ := hf 0 f0 rfl
    obtain ⟨y1, i1, e1⟩ := hf 1 f1 rfl
    obtain ⟨y2, i2, e2⟩ := hf 2 f2 rfl
    have s1 : P.cellsOf ti = 1 := T.i.sz
    rw [h0.1, h0.2, s1] at e0
    rw [h1.1, h1.2, s1] at e1
    rw [h2.1, h2.2, T.cs] at e2
    obtain ⟨a0, k0, _⟩ := T.i.rd e0
    obtain ⟨a1, k1, _⟩ := T.i.rd e1
    have p3 := part_le i2
    have q3 := bulk_one y2.1
    obtain ⟨M, hM⟩ : ∃ M, Rows.uptoBulk y2.1 = M + 1 := ⟨Rows.uptoBulk y2.1 - 1, by omega⟩
    obtain ⟨kids, ⟨A, c, hc, hle, hr⟩, ⟨hsum, _⟩, _⟩ := (rdsN_sl Tr.cnt (fun a n h => h) T.s T.cs (ih M (by omega))).rd e2 (by omega)
    have g0 : [c0] = [Value.int .i64 a0] := k0
    have g1 : [c1] = [Value.int .i64 a1] := k1
    have g2 : [c2] = [Value.slice A kids.length c] := hc
    simp only [List.cons.injEq, and_true] at g0 g1 g2
    subst g0 g1 g2
    refine ⟨.mk ⟨a0, a1⟩ kids, Tr.K.mk (f := fDv) (x := ⟨a0, a1⟩) hle hr, ?_⟩
    rw [Tr.cnt, cnts_sum]
    omega
/-- Nodes. -/
structure NdTypes (P : Program) (ti tz ta ts : TypeId) : Prop where
  i : RInt P ti
  z : RStr P tz
  a : ∃ f0 f1 f2 f3 : Field, P.underlying ta = some (.struct #[f0, f1, f2, f3]) ∧ (f0.type, f0.offset) = (ti, 0) ∧ (f1.type, f1.offset) = (tz, 1) ∧ (f2.type, f2.offset) = (ti, 2) ∧ (f3.type, f3.offset) = (ts, 3)
  ca : P.cellsOf ta = 4
  s : P.underlying ts = some (.slice ta)
  cs : P.cellsOf ts = 1
def ndSm (n : Nat) (x : NdP) (k : Nat) : Prop := x.name.size ≤ n ∧ k ≤ n
theorem Tr.All.imp {α : Type} {p q : α → Nat → Prop} (h : ∀ x k, p x k → q x k) : ∀ t : Tr α, t.All p → t.All q := Tr.ind fun x kids ih ha => by
  obtain ⟨h1, h2⟩ := (Tr.All_eq _).1 ha
  exact (Tr.All_eq _).2 ⟨h _ _ h1, (Tr.Alls_iff _).2 fun t ht => ih t ht ((Tr.Alls_iff _).1 h2 t ht)⟩
theorem rdsN_nd (T : NdTypes P ti tz ta ts) : ∀ N, RdsN P ta (kTr fNd) (fun a n => a.cnt ≤ n ∧ a.All (ndSm n)) N := fun N => by
  induction N using Nat.strongRecOn with
  | ind N ih =>
    refine ⟨T.ca, fun {H enc w base spare held fuel cs x} h hN => ?_⟩
    obtain ⟨f0, f1, f2, f3, hu, h0, h1, h2, h3⟩ := T.a
    simp only [Prod.mk.injEq] at h0 h1 h2 h3
    obtain ⟨xs, n, hb, hl, hlen, hf⟩ := fields_of hu h
    rw [T.ca] at hl
    obtain ⟨c0, c1, c2, c3, rfl⟩ := four_len hl
    obtain ⟨y0, i0, e0⟩ := hf 0 f0 rfl
    obtain ⟨y1, i1, e1⟩ := hf 1 f1 rfl
    obtain ⟨y2, i2, e2⟩ := hf 2 f2 rfl
    obtain ⟨y3, i3, e3⟩ := hf 3 f3 rfl
    have s1 : P.cellsOf ti = 1 := T.i.sz
    have s2 : P.cellsOf tz = 1 := T.z.sz
    rw [h0.1, h0.2, s1] at e0
    rw [h1.1, h1.2, s2] at e1
    rw [h2.1, h2.2, s1] at e2
    rw [h3.1, h3.2, T.cs] at e3
    obtain ⟨a0, k0, _⟩ := T.i.rd e0
    obtain ⟨a1, k1, b1⟩ := T.z.rd e1
    obtain ⟨a2, k2, _⟩ := T.i.rd e2
    have p1 := part_le i1
    have p3 := part_le i3
    have q3 := bulk_one y3.1
    obtain ⟨M, hM⟩ : ∃ M, Rows.uptoBulk y3.1 = M + 1 := ⟨Rows.uptoBulk y3.1 - 1, by omega⟩
    obtain ⟨kids, ⟨A, c, hc, hle, hr⟩, ⟨hsum, hkl⟩, hel⟩ := (rdsN_sl Tr.cnt (fun a n h => h.1) T.s T.cs (ih M (by omega))).rd e3 (by omega)
    have g0 : [c0] = [Value.int .i64 a0] := k0
    have g1 : [c1] = [Value.string a1] := k1
    have g2 : [c2] = [Value.int .i64 a2] := k2
    have g3 : [c3] = [Value.slice A kids.length c] := hc
    simp only [List.cons.injEq, and_true] at g0 g1 g2 g3
    subst g0 g1 g2 g3
    refine ⟨.mk ⟨a0, a1, a2⟩ kids, Tr.K.mk (f := fNd) (x := ⟨a0, a1, a2⟩) hle hr, ?_, (Tr.All_eq _).2 ⟨⟨show a1.size ≤ _ by omega, show kids.length ≤ _ by omega⟩, (Tr.Alls_iff _).2 fun t ht => ?_⟩⟩
    · rw [Tr.cnt, cnts_sum]
      omega
    · obtain ⟨m, hm, _, hall⟩ := hel t ht
      exact Tr.All.imp (fun y k hy => ⟨by have := hy.1; omega, by have := hy.2; omega⟩) t hall
/-- Constructors, data. -/
structure DtTypes (P : Program) (tz tzs tc tcs td tds : TypeId) : Prop where
  z : RStr P tz
  zs : Rds P tzs kStr.sl (fun xs n => xs.length + 1 ≤ n ∧ ∀ x ∈ xs, ∃ m, m ≤ n ∧ x.size + 1 ≤ m)
  c : ∃ f0 f1 : Field, P.underlying tc = some (.struct #[f0, f1]) ∧ (f0.type, f0.offset) = (tz, 0) ∧ (f1.type, f1.offset) = (tzs, 1)
  cc : P.cellsOf tc = 2
  cs : P.underlying tcs = some (.slice tc)
  ccs : P.cellsOf tcs = 1
  d : ∃ f0 f1 : Field, P.underlying td = some (.struct #[f0, f1]) ∧ (f0.type, f0.offset) = (tz, 0) ∧ (f1.type, f1.offset) = (tcs, 1)
  cd : P.cellsOf td = 2
  ds : P.underlying tds = some (.slice td)
  cds : P.cellsOf tds = 1
def CtSm (n : Nat) (c : Ct) : Prop := c.name.size ≤ n ∧ c.fields.length ≤ n ∧ ∀ s ∈ c.fields, s.size ≤ n
theorem rds_ct (T : DtTypes P tz tzs tc tcs td tds) : Rds P tc kCt (fun a n => CtSm n a) := ⟨T.cc, fun {H enc w base spare held fuel cs x} h => by
  obtain ⟨f0, f1, hu, h0, h1⟩ := T.c
  simp only [Prod.mk.injEq] at h0 h1
  obtain ⟨xs, n, hb, hl, hlen, hf⟩ := fields_of hu h
  rw [T.cc] at hl
  obtain ⟨c0, c1, rfl⟩ := two_len hl
  obtain ⟨y0, i0, e0⟩ := hf 0 f0 rfl
  obtain ⟨y1, i1, e1⟩ := hf 1 f1 rfl
  have s0 : P.cellsOf tz = 1 := T.z.sz
  have s1 : P.cellsOf tzs = 1 := T.zs.sz
  rw [h0.1, h0.2, s0] at e0
  rw [h1.1, h1.2, s1] at e1
  obtain ⟨a0, k0, b0⟩ := T.z.rd e0
  obtain ⟨a1, ⟨A, c, k1, l1, r1⟩, b1, d1⟩ := T.zs.rd e1
  have p0 := part_le i0
  have p1 := part_le i1
  have g0 : [c0] = [Value.string a0] := k0
  have g1 : [c1] = [Value.slice A a1.length c] := k1
  simp only [List.cons.injEq, and_true] at g0 g1
  subst g0 g1
  exact ⟨⟨a0, a1⟩, ⟨A, c, rfl, l1, r1⟩, by dsimp only; omega, by dsimp only; omega, fun s hs => by obtain ⟨m, hm, h2⟩ := d1 s hs; omega⟩⟩
theorem rds_dt (T : DtTypes P tz tzs tc tcs td tds) : Rds P td kDt (fun a n => a.name.size ≤ n ∧ a.ctors.length ≤ n ∧ ∀ c ∈ a.ctors, CtSm n c) := ⟨T.cd, fun {H enc w base spare held fuel cs x} h => by
  obtain ⟨f0, f1, hu, h0, h1⟩ := T.d
  simp only [Prod.mk.injEq] at h0 h1
  obtain ⟨xs, n, hb, hl, hlen, hf⟩ := fields_of hu h
  rw [T.cd] at hl
  obtain ⟨c0, c1, rfl⟩ := two_len hl
  obtain ⟨y0, i0, e0⟩ := hf 0 f0 rfl
  obtain ⟨y1, i1, e1⟩ := hf 1 f1 rfl
  have s0 : P.cellsOf tz = 1 := T.z.sz
  rw [h0.1, h0.2, s0] at e0
  rw [h1.1, h1.2, T.ccs] at e1
  obtain ⟨a0, k0, b0⟩ := T.z.rd e0
  obtain ⟨a1, ⟨A, c, k1, l1, r1⟩, b1, d1⟩ := (rds_sl T.cs T.ccs (rds_ct T)).rd e1
  have p0 := part_le i0
  have p1 := part_le i1
  have g0 : [c0] = [Value.string a0] := k0
  have g1 : [c1] = [Value.slice A a1.length c] := k1
  simp only [List.cons.injEq, and_true] at g0 g1
  subst g0 g1
  exact ⟨⟨a0, a1⟩, ⟨A, c, rfl, l1, r1⟩, by dsimp only; omega, by dsimp only; omega, fun c hc => by obtain ⟨m, hm, h2, h3, h4⟩ := d1 c hc; exact ⟨by omega, by omega, fun s hs => by have := h4 s hs; omega⟩⟩⟩
theorem flatd_len : ∀ l : List Dt, (flat l).length = (l.map fun d => d.ctors.length).sum
  | [] => rfl
  | d :: r => by
    have := flatd_len r
    rw [show flat (d :: r) = ctsOf d d.ctors ++ flat r from rfl, List.length_append, this, List.map_cons, List.sum_cons]
    unfold ctsOf
    rw [List.length_map]
/-- Rows of data. -/
theorem rdsN_dts (T : DtTypes P tz tzs tc tcs td tds) (hN : N ≤ 1048576) : RdsN P tds kDt.sl (fun l n => DOk l ∧ l.length + 1 ≤ n) N := ⟨T.cds, fun {H enc w base spare held fuel cs x} h hx => by
  obtain ⟨l, hk, ⟨h1, h2⟩, h3⟩ := (rdsN_sl (fun d : Dt => d.ctors.length) (fun a n h => h.2.1) T.ds T.cds ((rds_dt T).n N)).rd h (by omega)
  refine ⟨l, hk, ⟨by omega, fun d hd => ?_, by rw [flatd_len]; omega, fun p hp => ?_⟩, h2⟩
  · obtain ⟨m, hm, h4, _⟩ := h3 d hd
    omega
  · obtain ⟨d, hd, hp2⟩ := List.mem_flatMap.1 hp
    obtain ⟨c, hc, rfl⟩ := List.mem_map.1 hp2
    obtain ⟨m, hm, _, _, h4⟩ := h3 d hd
    obtain ⟨h5, h6, h7⟩ := h4 c hc
    exact ⟨by dsimp only; omega, by dsimp only; omega, fun s hs => by have := h7 s hs; omega⟩⟩
/-- What is given: a grammar, data, types. -/
structure GvTypes (P : Program) (tg tds tzs tw : TypeId) : Prop where
  g : ∃ f0 f1 f2 : Field, P.underlying tw = some (.struct #[f0, f1, f2]) ∧ (f0.type, f0.offset) = (tg, 0) ∧ (f1.type, f1.offset) = (tds, 5) ∧ (f2.type, f2.offset) = (tzs, 6)
  cg : P.cellsOf tw = 7
structure Gv where
  g : Pl
  l : List Dt
  ty : List ByteArray
structure GvA where
  a : PlA
  l : Option Addr
  cl : Nat
  t : Option Addr
  ct : Nat
abbrev Gv.cs (x : Gv) (a : GvA) : List Value := [.slice a.a.k x.g.kinds.length a.a.ck, .slice a.a.p x.g.precs.length a.a.cp, .slice a.a.r x.g.rules.length a.a.cr, .slice a.a.q x.g.prods.length a.a.cq, .int .i64 x.g.start, .slice a.l x.l.length a.cl, .slice a.t x.ty.length a.ct]
structure Gv.ok (x : Gv) (a : GvA) : Prop where
  g : x.g.ok
  l : DOk x.l
  tl : x.ty.length ≤ 1048576
  ts : ∀ s ∈ x.ty, s.size ≤ 1048576
  q : x.g.prods.length ≤ 1048576
  st : I64 x.g.start
  cap : x.g.kinds.length ≤ a.a.ck ∧ x.g.precs.length ≤ a.a.cp ∧ x.g.rules.length ≤ a.a.cr ∧ x.g.prods.length ≤ a.a.cq
  cl : x.l.length ≤ a.cl
  ct : x.ty.length ≤ a.ct
structure Gv.rd (x : Gv) (w : World) (a : GvA) : Prop where
  g : x.g.rd w a.a
  l : Rd kDt w a.l x.l
  t : Rd kStr w a.t x.ty
theorem Gv.rd.below {x : Gv} {w w' : World} {a : GvA} (h : x.rd w a) (hb : Below w.heap.size w w') : x.rd w' a := ⟨h.g.below hb, h.l.below hb, h.t.below hb⟩
variable {tp tk tpc tq : TypeId}
theorem rd_gv (T : GTypes P ti tz ta ts tr tp) (T2 : GTypes2 P ti tp tk tpc tq tg) (D : DtTypes P tz tk tc tcs td tds) (G : GvTypes P tg tds tk tw) {H : Type} {enc : TypeId × Value → H} {w : World} {base : Nat} {spare : Nat → Bool} {held : Bool} {fuel : Nat} {cs : List Value} {x : DataW H × List MemPlace} (h : DataW.trod enc P w base spare held fuel tw cs = some x) (hN : Rows.uptoBulk x.1 ≤ 1048576) :
    ∃ (g : Gv) (a : GvA), cs = g.cs a ∧ g.rd w a ∧ g.ok a := by
  obtain ⟨f0, f1, f2, hu, h0, h1, h2⟩ := G.g
  simp only [Prod.mk.injEq] at h0 h1 h2
  obtain ⟨xs, n, hb, hl, hlen, hf⟩ := fields_of hu h
  rw [G.cg] at hl
  obtain ⟨c0, c1, c2, c3, c4, c5, c6, rfl⟩ := seven_len hl
  obtain ⟨y0, i0, e0⟩ := hf 0 f0 rfl
  obtain ⟨y1, i1, e1⟩ := hf 1 f1 rfl
  obtain ⟨y2, i2, e2⟩ := hf 2 f2 rfl
  have s2 : P.cellsOf tk = 1 := T2.k.sz
  rw [h0.1, h0.2, T2.cg] at e0
  rw [h1.1, h1.2, D.cds] at e1
  rw [h2.1, h2.2, s2] at e2
  have p0 := part_le i0
  have p1 := part_le i1
  have p2 := part_le i2
  obtain ⟨g, a, hcs, hr, hok, hcap, hst, hpr⟩ := rd_pl T T2 e0 (by omega)
  obtain ⟨l, ⟨A1, k1, g1, l1, r1⟩, hl1, _⟩ := (rdsN_dts D (Nat.le_refl _)).rd e1 (by omega)
  obtain ⟨ty, ⟨A2, k2, g2, l2, r2⟩, b2, d2⟩ := T2.k.rd e2
  have g0 : [c0, c1, c2, c3, c4] = g.cs a := hcs
  have g1' : [c5] = [Value.slice A1 l.length k1] := g1
  have g2' : [c6] = [Value.slice A2 ty.length k2] := g2
  simp only [List.cons.injEq, and_true] at g0 g1' g2'
  obtain ⟨q0, q1, q2, q3, q4⟩ := g0
  subst q0 q1 q2 q3 q4 g1' g2'
  exact ⟨⟨g, l, ty⟩, ⟨a, A1, k1, A2, k2⟩, rfl, ⟨hr, r1, r2⟩, hok, hl1, by dsimp only; omega, fun s hs => by obtain ⟨m, hm, h3⟩ := d2 s hs; omega, by dsimp only; omega, hst, hcap, l1, l2⟩
/-- A tree over a row. -/
structure TeTypes (P : Program) (td tr tt : TypeId) : Prop where
  g : ∃ f0 f1 : Field, P.underlying tt = some (.struct #[f0, f1]) ∧ (f0.type, f0.offset) = (td, 0) ∧ (f1.type, f1.offset) = (tr, 3)
  cg : P.cellsOf tt = 4
theorem rd_te (T : DvTypes P ti td ts) (hr : Rds P tr (kInt .i64).sl (fun xs n => xs.length + 1 ≤ n ∧ ∀ x ∈ xs, ∃ m, m ≤ n ∧ (Lit.int .i64 x).wf = true ∧ 1 ≤ m)) (G : TeTypes P td tr tt) {H : Type} {enc : TypeId × Value → H} {w : World} {base : Nat} {spare : Nat → Bool} {held : Bool} {fuel : Nat} {cs : List Value} {x : DataW H × List MemPlace} (h : DataW.trod enc P w base spare held fuel tt cs = some x) (hN : Rows.uptoBulk x.1 ≤ 1048576) :
    ∃ (d : Dv) (row : List Int) (B A : Option Addr) (k c : Nat), cs = [.int .i64 d.x.prod, .int .i64 d.x.tok, .slice B d.kids.length k, .slice A row.length c] ∧ Rd (kTr fDv) w B d.kids ∧ Rd (kInt .i64) w A row ∧ d.cnt ≤ 1048576 ∧ row.length ≤ 1048576 ∧ (d.kids.length ≤ k ∧ row.length ≤ c) ∧ ∀ x ∈ row, I64 x := by
  obtain ⟨f0, f1, hu, h0, h1⟩ := G.g
  simp only [Prod.mk.injEq] at h0 h1
  obtain ⟨xs, n, hb, hl, hlen, hf⟩ := fields_of hu h
  rw [G.cg] at hl
  obtain ⟨c0, c1, c2, c3, rfl⟩ := four_len hl
  obtain ⟨y0, i0, e0⟩ := hf 0 f0 rfl
  obtain ⟨y1, i1, e1⟩ := hf 1 f1 rfl
  have s1 : P.cellsOf tr = 1 := hr.sz
  rw [h0.1, h0.2, T.ca] at e0
  rw [h1.1, h1.2, s1] at e1
  have p0 := part_le i0
  have p1 := part_le i1
  obtain ⟨d, hd, hcn⟩ := (rdsN_dv T (Rows.uptoBulk y0.1)).rd e0 (Nat.le_refl _)
  obtain ⟨row, ⟨A, c, hc, hle, hrr⟩, b1, d1⟩ := hr.rd e1
  obtain ⟨B, k, hB, hBl, hBr⟩ := Tr.K.open hd
  have g1 : [c3] = [Value.slice A row.length c] := hc
  have g0 : [c0, c1, c2] = [Value.int .i64 d.x.prod, .int .i64 d.x.tok, .slice B d.kids.length k] := hB
  simp only [List.cons.injEq, and_true] at g0 g1
  obtain ⟨q0, q1, q2⟩ := g0
  subst q0 q1 q2 g1
  exact ⟨d, row, B, A, k, c, rfl, hBr, hrr, by omega, by omega, ⟨hBl, hle⟩, fun x hx => by obtain ⟨m, _, hw, _⟩ := d1 x hx; exact i64_wf hw⟩
end
end Go.Proofs.YtgdemplcpcacaaaFx

/-! Nodes' types, parts, and sameness are told as the document says. -/
namespace Go.Proofs.Ytgdemplcpcacaaa.BTypes
open Go Go.RowKit Go.Proofs.YtgdemplcpcacaaaFx Go.Proofs.Ytgdemplcpcacaaa.AliveB Go.Proofs.Ytgdemplcpcacaaa.PTyped Go.Proofs.Ytgdemplcpcacaaa.RFit Go.Proofs.Ytgdemplcpcacaaa.PartsN Go.Proofs.Ytgdemplcpcacaaa.SameN
theorem agg24 : Agg Try.prog 24 4 := agg_of Try.underlying24 (by kernel_rfl)
theorem en10 : Enters Try.prog 10 := enters Try.func10 (by kernel_rfl) rfl
theorem en14 : Enters Try.prog 14 := enters Try.func14 (by kernel_rfl) rfl
theorem en21 : Enters Try.prog 21 := enters Try.func21 (by kernel_rfl) rfl
theorem en24 : Enters Try.prog 24 := enters Try.func24 (by kernel_rfl) rfl
theorem en25 : Enters Try.prog 25 := enters Try.func25 (by kernel_rfl) rfl
theorem en26 : Enters Try.prog 26 := enters Try.func26 (by kernel_rfl) rfl
theorem en27 : Enters Try.prog 27 := enters Try.func27 (by kernel_rfl) rfl
theorem mixed : Try.prog.follows .mixedOrders = true := by kernel_rfl
theorem one9 : One Try.prog 9 := one_of Try.underlying9 rfl (by kernel_rfl)
theorem sz9 : ∀ W, (sizeOf 9).run Try.prog W = .ok 1 W := size_of (by kernel_rfl)
theorem zv9 : ∀ W, (zeroValue 9).run Try.prog W = .ok (.string ⟨#[]⟩) W := zero_of (by kernel_rfl)

def bNames : List ByteArray := [⟨#[]⟩, ⟨#[116, 101, 120, 116]⟩, ⟨#[69]⟩, ⟨#[76]⟩, ⟨#[90]⟩]

set_option maxHeartbeats 3200000 in
set_option maxRecDepth 100000 in
theorem types_calls {l : List Dt} {t u : Nd} {D A B : Option Addr} {cd k k2 : Nat} {w : World} (hl : DOk l) (hcd : l.length ≤ cd) (hd : Rd kDt w D l) (ht : Rd (kTr fNd) w A t.kids) (hu : Rd (kTr fNd) w B u.kids) (hft : t.All smallN) (hct : t.cnt ≤ 1048576) : Calls Try.prog 9 #[.slice D l.length cd, .agg #[.int .i64 t.x.kind, .string t.x.name, .int .i64 t.x.tok, .slice A t.kids.length k], .agg #[.int .i64 u.x.kind, .string u.x.name, .int .i64 u.x.tok, .slice B u.kids.length k2]] w fun e w' => ∃ v, e = .returned v ∧ v = .bool true ∧ Holds w [] w' := by
  have hbl : bNames.length = 5 := rfl
  have hfe : t.All few := Tr.All.imp (fun x k h => h.2) t hft
  refine calls_of Try.func9 rfl Try.ntmps9 rfl ?_
  have H := Holds.start w
  refine wcR ?_
  refine wl_box (cs := [_, _, _, _]) H rfl rfl rfl ?_
  intro b4 w1 hb4 H2
  refine wl_box (cs := [_, _, _, _]) H2 rfl rfl rfl ?_
  intro b5 w3 hb5 H4
  refine wA ?_
  refine wl_nil ?_
  refine wc_seq ?_
  refine wcR ?_
  refine wl_slit (v := .string ⟨#[]⟩) (z := [.string ⟨#[]⟩, .string ⟨#[]⟩, .string ⟨#[]⟩, .string ⟨#[]⟩, .string ⟨#[]⟩]) (cs := [.string ⟨#[]⟩, .string ⟨#[116, 101, 120, 116]⟩, .string ⟨#[69]⟩, .string ⟨#[76]⟩, .string ⟨#[90]⟩]) (sz := 1) H4 rfl Try.underlying40 sz9 zv9 (by decide) (by decide) (by kernel_rfl) rfl (by repeat constructor) ?_
  intro b9 w5 hb9 H5 hs5
  refine wV (v_len Try.underlying40 rfl) ?_
  refine wM ?_
  refine wl_nil ?_
  refine wc_block ?_
  refine wc_loop (σ := Nat) (fun s => [(0, .slice D l.length cd), (4, .pointer (some ⟨b4, 0, none⟩)), (5, .pointer (some ⟨b5, 0, none⟩)), (9, .slice (some ⟨b9, 0, none⟩) 5 5), (10, .int .i64 5), (11, .int .i64 s)]) (fun s W => s ≤ 5 ∧ Holds w [Blk b9 9 [.string ⟨#[]⟩, .string ⟨#[116, 101, 120, 116]⟩, .string ⟨#[69]⟩, .string ⟨#[76]⟩, .string ⟨#[90]⟩], Blk b5 24 [.int .i64 u.x.kind, .string u.x.name, .int .i64 u.x.tok, .slice B u.kids.length k2], Blk b4 24 [.int .i64 t.x.kind, .string t.x.name, .int .i64 t.x.tok, .slice A t.kids.length k]] W) (fun s => 5 - s) 0 (sc rfl (sc rfl (sc rfl (sc rfl (sc rfl (sc rfl (sn _))))))) ⟨Nat.zero_le _, H5.pm (by repeat constructor)⟩ ?_
  rintro i W0 ⟨hi, H⟩
  refine wcR ?_
  refine wV (v_lss rfl rfl) ?_
  refine wl_nil ?_
  refine wc_seq ?_
  refine wc_cond rfl (fun c0 => ?_) (fun c0 => ?_)
  ·have c0p := oT c0
   refine wc_skip ?_
   refine wc_seq ?_
   refine wc_block ?_
   refine wcR ?_
   refine wV (v_idx Try.underlying40 sz9 (rd_blks (f := fStr) (b := b9) (e := 9) (xs := bNames) H (by repeat constructor) rfl).ad rfl rfl (by omega) (by omega)) ?_
   refine wV (v_load one9 rfl ((rd_blks (f := fStr) (b := b9) (e := 9) (xs := bNames) H (by repeat constructor) rfl).at1sN (i := i) (show i < bNames.length by omega))) ?_
   refine wA ?_
   refine wl_nil ?_
   refine wc_seq ?_
   refine wc_tree [0, 1, 2, 4, 5, 6, 8] (fun W => Holds w [Blk b9 9 [.string ⟨#[]⟩, .string ⟨#[116, 101, 120, 116]⟩, .string ⟨#[69]⟩, .string ⟨#[76]⟩, .string ⟨#[90]⟩], Blk b5 24 [.int .i64 u.x.kind, .string u.x.name, .int .i64 u.x.tok, .slice B u.kids.length k2], Blk b4 24 [.int .i64 t.x.kind, .string t.x.name, .int .i64 t.x.tok, .slice A t.kids.length k]] W) mixed ?_
   have Hd := H.drew
   have HSd : Holds w [Blk b9 9 [.string ⟨#[]⟩, .string ⟨#[116, 101, 120, 116]⟩, .string ⟨#[69]⟩, .string ⟨#[76]⟩, .string ⟨#[90]⟩], Blk b5 24 [.int .i64 u.x.kind, .string u.x.name, .int .i64 u.x.tok, .slice B u.kids.length k2], Blk b4 24 [.int .i64 t.x.kind, .string t.x.name, .int .i64 t.x.tok, .slice A t.kids.length k]] _ := Hd.pm (by repeat (first | exact pm_refl _ | constructor | refine pm_skip ?_))
   refine wjV (k := 0) rfl HSd (fun W HW => v_move rfl) ?_
   refine wjV (k := 1) rfl HSd (fun W HW => v_loadN agg24 rfl rfl (HW.ats (by repeat constructor))) ?_
   refine wjV (k := 2) rfl HSd (fun W HW => v_move rfl) ?_
   refine wjV (k := 4) rfl HSd (fun W HW => v_move rfl) ?_
   refine wjV (k := 5) rfl HSd (fun W HW => v_loadN agg24 rfl rfl (HW.ats (by repeat constructor))) ?_
   refine wjV (k := 6) rfl HSd (fun W HW => v_move rfl) ?_
   refine wj_t (k := 3) rfl (by kernel_rfl) ?_
   refine wl_call en21 rfl rfl (ptyped_calls (cd := cd) hl (hd.below Hd.old) (ht.below Hd.old) hft) ?_
   rintro _ w6 ⟨rfl, Hc⟩
   have H7 := Hd.call0 Hc
   have HS8 : Holds w [Blk b9 9 [.string ⟨#[]⟩, .string ⟨#[116, 101, 120, 116]⟩, .string ⟨#[69]⟩, .string ⟨#[76]⟩, .string ⟨#[90]⟩], Blk b5 24 [.int .i64 u.x.kind, .string u.x.name, .int .i64 u.x.tok, .slice B u.kids.length k2], Blk b4 24 [.int .i64 t.x.kind, .string t.x.name, .int .i64 t.x.tok, .slice A t.kids.length k]] _ := H7.pm (by repeat (first | exact pm_refl _ | constructor | refine pm_skip ?_))
   refine wl_nil (tn ⟨fun _ => HS8, ?_⟩)
   refine wj_t (k := 7) rfl (by kernel_rfl) ?_
   refine wl_call en24 rfl rfl (rtyped_calls hl hcd (hd.below H7.old) (ht.below H7.old) hft) ?_
   rintro _ w9 ⟨rfl, Hc⟩
   have H10 := H7.call0 Hc
   have HS11 : Holds w [Blk b9 9 [.string ⟨#[]⟩, .string ⟨#[116, 101, 120, 116]⟩, .string ⟨#[69]⟩, .string ⟨#[76]⟩, .string ⟨#[90]⟩], Blk b5 24 [.int .i64 u.x.kind, .string u.x.name, .int .i64 u.x.tok, .slice B u.kids.length k2], Blk b4 24 [.int .i64 t.x.kind, .string t.x.name, .int .i64 t.x.tok, .slice A t.kids.length k]] _ := H10.pm (by repeat (first | exact pm_refl _ | constructor | refine pm_skip ?_))
   refine wl_nil (tn ⟨fun _ => HS11, ?_⟩)
   refine wjV (k := 8) rfl HS11 (fun W HW => v_neqb Try.underlying4 rfl rfl) ?_
   refine wj_done (by kernel_rfl) ?_
   refine wc_cond rfl (fun c1 => ?_) (fun c1 => ?_)
   ·exact absurd c1 (by simp)
   refine wc_skip ?_
   refine wc_region ?_
   refine wV (v_addi rfl rfl (by omega)) ?_
   refine wM ?_
   refine wl_nil ?_
   exact ⟨i + 1, (sc rfl (sc rfl (sc rfl (sc rfl (sc rfl (sc rfl (sn _))))))), ⟨by omega, H10.pm (by repeat constructor)⟩, by omega⟩
  have c0p := oF c0
  refine wc_exit ?_
  refine wc_seq ?_
  refine wc_tree [0, 2, 4, 5, 6, 7, 9, 10, 12, 13, 14, 15, 16, 18, 19, 21, 22] (fun W => Holds w [Blk b5 24 [.int .i64 u.x.kind, .string u.x.name, .int .i64 u.x.tok, .slice B u.kids.length k2], Blk b4 24 [.int .i64 t.x.kind, .string t.x.name, .int .i64 t.x.tok, .slice A t.kids.length k]] W) mixed ?_
  have Hd := H.drew
  have HSd : Holds w [Blk b5 24 [.int .i64 u.x.kind, .string u.x.name, .int .i64 u.x.tok, .slice B u.kids.length k2], Blk b4 24 [.int .i64 t.x.kind, .string t.x.name, .int .i64 t.x.tok, .slice A t.kids.length k]] _ := Hd.pm (by repeat (first | exact pm_refl _ | constructor | refine pm_skip ?_))
  refine wjV (k := 0) rfl HSd (fun W HW => v_loadN agg24 rfl rfl (HW.ats (by repeat constructor))) ?_
  refine wjV (k := 2) rfl HSd (fun W HW => v_loadN agg24 rfl rfl (HW.ats (by repeat constructor))) ?_
  refine wj_t (k := 1) rfl (by kernel_rfl) ?_
  refine wl_call en25 rfl rfl (pparts_calls t _ _ _ (ht.below Hd.old) (by omega)) ?_
  rintro _ w12 ⟨rfl, Hc⟩
  have H13 := Hd.call0 Hc
  have HS14 : Holds w [Blk b5 24 [.int .i64 u.x.kind, .string u.x.name, .int .i64 u.x.tok, .slice B u.kids.length k2], Blk b4 24 [.int .i64 t.x.kind, .string t.x.name, .int .i64 t.x.tok, .slice A t.kids.length k]] _ := H13.pm (by repeat (first | exact pm_refl _ | constructor | refine pm_skip ?_))
  refine wl_nil (tn ⟨fun _ => HS14, ?_⟩)
  refine wj_t (k := 3) rfl (by kernel_rfl) ?_
  refine wl_call en26 rfl rfl (rparts_calls t _ _ _ (ht.below H13.old) (by omega)) ?_
  rintro _ w15 ⟨rfl, Hc⟩
  have H16 := H13.call0 Hc
  have HS17 : Holds w [Blk b5 24 [.int .i64 u.x.kind, .string u.x.name, .int .i64 u.x.tok, .slice B u.kids.length k2], Blk b4 24 [.int .i64 t.x.kind, .string t.x.name, .int .i64 t.x.tok, .slice A t.kids.length k]] _ := H16.pm (by repeat (first | exact pm_refl _ | constructor | refine pm_skip ?_))
  refine wl_nil (tn ⟨fun _ => HS17, ?_⟩)
  refine wjV (k := 4) rfl HS17 (fun W HW => v_eql rfl rfl) ?_
  refine wjV (k := 5) rfl HS17 (fun W HW => v_move rfl) ?_
  refine wj_guard (dj := 30) rfl (fun g30 => ?_) (fun g30 => ?_)
  rotate_left
  ·have g30p := oF g30
   exact absurd g30 (by simp)
  have g30p := oT g30
  refine wj_vg (k := 6) rfl (by kernel_rfl) (fun _ _ _ h => h) rfl rfl g30 HS17 rfl (fun W HW => v_loadN agg24 rfl rfl (HW.ats (by repeat constructor))) ?_
  refine wj_vg (k := 7) rfl (by kernel_rfl) (fun _ _ _ h => h) rfl rfl g30 HS17 rfl (fun W HW => v_loadN agg24 rfl rfl (HW.ats (by repeat constructor))) ?_
  refine wj_vg (k := 9) rfl (by kernel_rfl) (fun _ _ _ h => h) rfl rfl g30 HS17 rfl (fun W HW => v_loadN agg24 rfl rfl (HW.ats (by repeat constructor))) ?_
  refine wj_vg (k := 10) rfl (by kernel_rfl) (fun _ _ _ h => h) rfl rfl g30 HS17 rfl (fun W HW => v_loadN agg24 rfl rfl (HW.ats (by repeat constructor))) ?_
  refine wj_t (k := 8) rfl (by kernel_rfl) ?_
  refine wO g30 ?_
  refine wl_call en27 rfl rfl (psame_calls t u _ _ _ _ _ (ht.below H16.old) (hu.below H16.old) hfe) ?_
  rintro _ w18 ⟨rfl, Hc⟩
  have H19 := H16.call0 Hc
  have HS20 : Holds w [Blk b5 24 [.int .i64 u.x.kind, .string u.x.name, .int .i64 u.x.tok, .slice B u.kids.length k2], Blk b4 24 [.int .i64 t.x.kind, .string t.x.name, .int .i64 t.x.tok, .slice A t.kids.length k]] _ := H19.pm (by repeat (first | exact pm_refl _ | constructor | refine pm_skip ?_))
  refine wl_nil (tn ⟨fun _ => HS20, ?_⟩)
  refine wj_t (k := 11) rfl (by kernel_rfl) ?_
  refine wO g30 ?_
  refine wl_call en14 rfl rfl (rsame_calls t u _ _ _ _ _ (ht.below H19.old) (hu.below H19.old) hfe) ?_
  rintro _ w21 ⟨rfl, Hc⟩
  have H22 := H19.call0 Hc
  have HS23 : Holds w [Blk b5 24 [.int .i64 u.x.kind, .string u.x.name, .int .i64 u.x.tok, .slice B u.kids.length k2], Blk b4 24 [.int .i64 t.x.kind, .string t.x.name, .int .i64 t.x.tok, .slice A t.kids.length k]] _ := H22.pm (by repeat (first | exact pm_refl _ | constructor | refine pm_skip ?_))
  refine wl_nil (tn ⟨fun _ => HS23, ?_⟩)
  refine wj_vg (k := 12) rfl (by kernel_rfl) (fun _ _ _ h => h) rfl rfl g30 HS23 rfl (fun W HW => v_eqlb Try.underlying4 rfl rfl) ?_
  refine wjV (k := 13) rfl HS23 (fun W HW => v_pick_t rfl g30 rfl) ?_
  refine wjV (k := 14) rfl HS23 (fun W HW => v_move rfl) ?_
  refine wj_guard (dj := 39) rfl (fun g39 => ?_) (fun g39 => ?_)
  rotate_left
  ·exact absurd g39 (by simp)
  refine wj_vg (k := 15) rfl (by kernel_rfl) (fun _ _ _ h => h) rfl rfl g39 HS23 rfl (fun W HW => v_loadN agg24 rfl rfl (HW.ats (by repeat constructor))) ?_
  refine wj_vg (k := 16) rfl (by kernel_rfl) (fun _ _ _ h => h) rfl rfl g39 HS23 rfl (fun W HW => v_loadN agg24 rfl rfl (HW.ats (by repeat constructor))) ?_
  refine wj_t (k := 17) rfl (by kernel_rfl) ?_
  refine wO g39 ?_
  refine wl_call en27 rfl rfl (psame_calls t t _ _ _ _ _ (ht.below H22.old) (ht.below H22.old) hfe) ?_
  rintro _ w24 ⟨rfl, Hc⟩
  have H25 := H22.call0 Hc
  have HS26 : Holds w [Blk b5 24 [.int .i64 u.x.kind, .string u.x.name, .int .i64 u.x.tok, .slice B u.kids.length k2], Blk b4 24 [.int .i64 t.x.kind, .string t.x.name, .int .i64 t.x.tok, .slice A t.kids.length k]] _ := H25.pm (by repeat (first | exact pm_refl _ | constructor | refine pm_skip ?_))
  refine wl_nil (tn ⟨fun _ => HS26, ?_⟩)
  refine wjV (k := 18) rfl HS26 (fun W HW => v_pick_t rfl g39 rfl) ?_
  refine wjV (k := 19) rfl HS26 (fun W HW => v_move rfl) ?_
  refine wj_guard (dj := 44) rfl (fun g44 => ?_) (fun g44 => ?_)
  rotate_left
  ·exact absurd g44 (by rw [dec_t rfl]; decide)
  refine wj_t (k := 20) rfl (by kernel_rfl) ?_
  refine wO g44 ?_
  refine wl_call en10 rfl rfl (alive_calls) ?_
  rintro _ w27 ⟨rfl, Hc⟩
  have H28 := H25.call0 Hc
  have HS29 : Holds w [Blk b5 24 [.int .i64 u.x.kind, .string u.x.name, .int .i64 u.x.tok, .slice B u.kids.length k2], Blk b4 24 [.int .i64 t.x.kind, .string t.x.name, .int .i64 t.x.tok, .slice A t.kids.length k]] _ := H28.pm (by repeat (first | exact pm_refl _ | constructor | refine pm_skip ?_))
  refine wl_nil (tn ⟨fun _ => HS29, ?_⟩)
  refine wjV (k := 21) rfl HS29 (fun W HW => v_pick_t rfl g44 rfl) ?_
  refine wjV (k := 22) rfl HS29 (fun W HW => v_assign rfl) ?_
  refine wj_done (by kernel_rfl) ?_
  refine wc_ret ?_
  exact ⟨_, res1 rfl rfl, rfl, H28.pm (by repeat (first | exact pm_refl _ | constructor | refine pm_skip ?_))⟩
end Go.Proofs.Ytgdemplcpcacaaa.BTypes

/-! How the arguments' types are read (seat 21). -/
namespace Go.Proofs.Ytgdemplcpcacaaa.RowTy
open Go Go.ChangeShapes Go.WideShapes Go.ChangeAt Go.RowKit Go.Deep Go.Joins Go.Proofs.YtgdemplcpcacaaaFx
theorem own : ownKnob Try.prog.godebug = none := by kernel_rfl
theorem laidOut : laidOutB Try.prog = true := by kernel_rfl
theorem rInt : Rds Try.prog 3 (kInt .i64) (fun a n => (Lit.int .i64 a).wf = true ∧ 1 ≤ n) := rds_int Try.underlying3 (by kernel_rfl)
theorem rStr : Rds Try.prog 9 kStr (fun a n => a.size + 1 ≤ n) := rds_str Try.underlying9 (by kernel_rfl)
theorem rRow : Rds Try.prog 51 (kInt .i64).sl (fun xs n => xs.length + 1 ≤ n ∧ ∀ x ∈ xs, ∃ m, m ≤ n ∧ (Lit.int .i64 x).wf = true ∧ 1 ≤ m) := rds_sl Try.underlying51 (by kernel_rfl) rInt
theorem rStrs : Rds Try.prog 40 kStr.sl (fun xs n => xs.length + 1 ≤ n ∧ ∀ x ∈ xs, ∃ m, m ≤ n ∧ x.size + 1 ≤ m) := rds_sl Try.underlying40 (by kernel_rfl) rStr
theorem gT : GTypes Try.prog 3 9 69 67 51 73 where
  i := rInt
  z := rStr
  a := ⟨_, _, _, _, Try.underlying69, rfl, rfl, rfl, rfl⟩
  ca := by kernel_rfl
  s := Try.underlying67
  cs := by kernel_rfl
  r := rRow
  p := ⟨_, _, _, _, Try.underlying73, rfl, rfl, rfl, rfl⟩
  cp := by kernel_rfl
theorem rPc : Rds Try.prog 145 fMv.kn (fun a n => (I64 a.d ∧ I64 a.n) ∧ 1 ≤ n) := rds_mv Try.underlying145 Try.underlying3 (by kernel_rfl) (by kernel_rfl) rfl rfl
theorem gT2 : GTypes2 Try.prog 3 73 40 41 42 44 where
  k := rStrs
  c := rds_sl Try.underlying41 (by kernel_rfl) rPc
  q := Try.underlying42
  cq := by kernel_rfl
  g := ⟨_, _, _, _, _, Try.underlying44, rfl, rfl, rfl, rfl, rfl⟩
  cg := by kernel_rfl
theorem dT : DtTypes Try.prog 9 40 80 81 83 45 where
  z := rStr
  zs := rStrs
  c := ⟨_, _, Try.underlying80, rfl, rfl⟩
  cc := by kernel_rfl
  cs := Try.underlying81
  ccs := by kernel_rfl
  d := ⟨_, _, Try.underlying83, rfl, rfl⟩
  cd := by kernel_rfl
  ds := Try.underlying45
  cds := by kernel_rfl
theorem gvT : GvTypes Try.prog 44 45 40 47 := ⟨⟨_, _, _, Try.underlying47, rfl, rfl, rfl⟩, by kernel_rfl⟩
theorem dvT : DvTypes Try.prog 3 50 48 := ⟨rInt, ⟨_, _, _, Try.underlying50, rfl, rfl, rfl⟩, by kernel_rfl, Try.underlying48, by kernel_rfl⟩
theorem teT : TeTypes Try.prog 50 51 53 := ⟨⟨_, _, Try.underlying53, rfl, rfl⟩, by kernel_rfl⟩
theorem ndT : NdTypes Try.prog 3 9 24 22 := ⟨rInt, rStr, ⟨_, _, _, _, Try.underlying24, rfl, rfl, rfl, rfl⟩, by kernel_rfl, Try.underlying22, by kernel_rfl⟩
/-- A node, read. -/
theorem rd_nd {H : Type} {enc : TypeId × Value → H} {w : World} {base : Nat} {spare : Nat → Bool} {held : Bool} {fuel : Nat} {cs : List Value} {x : DataW H × List MemPlace} (h : DataW.trod enc Try.prog w base spare held fuel 24 cs = some x) (hN : Rows.uptoBulk x.1 ≤ 1048576) :
    ∃ (t : Nd) (A : Option Addr) (k : Nat), cs = [.int .i64 t.x.kind, .string t.x.name, .int .i64 t.x.tok, .slice A t.kids.length k] ∧ Rd (kTr fNd) w A t.kids ∧ t.cnt ≤ 1048576 ∧ t.All (ndSm 1048576) ∧ t.kids.length ≤ k := by
  obtain ⟨t, hk, h1, h2⟩ := (rdsN_nd ndT (Rows.uptoBulk x.1)).rd h (Nat.le_refl _)
  obtain ⟨A, k, hA, hl, hr⟩ := Tr.K.open hk
  exact ⟨t, A, k, hA, hr, by omega, Tr.All.imp (fun y k hy => ⟨by have := hy.1; omega, by have := hy.2; omega⟩) t h2, hl⟩
theorem small_nd {t : Nd} (h : t.All (ndSm 1048576)) : t.All smallN := Tr.All.imp (fun y k hy => ⟨by have := hy.1; omega, by have := hy.2; omega⟩) t h
/-- Data, read. -/
theorem rd_dts {H : Type} {enc : TypeId × Value → H} {w : World} {base : Nat} {spare : Nat → Bool} {held : Bool} {fuel : Nat} {cs : List Value} {x : DataW H × List MemPlace} (h : DataW.trod enc Try.prog w base spare held fuel 45 cs = some x) (hN : Rows.uptoBulk x.1 ≤ 1048576) :
    ∃ (l : List Dt) (A : Option Addr) (c : Nat), cs = [.slice A l.length c] ∧ Rd kDt w A l ∧ DOk l ∧ l.length ≤ c := by
  obtain ⟨l, ⟨A, c, hc, hle, hr⟩, hl, _⟩ := (rdsN_dts dT (Nat.le_refl 1048576)).rd h hN
  exact ⟨l, A, c, hc, hr, hl, hle⟩
end Go.Proofs.Ytgdemplcpcacaaa.RowTy
